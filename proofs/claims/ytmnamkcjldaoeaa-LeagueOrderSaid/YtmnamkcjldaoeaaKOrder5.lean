/- Parts of the proof of leagueOrder_holds, in order: HAll, HCheck, F69, HFault, F34 -/
import Derived.Test.YtmnamkcjldaoeaaKOrder3
import Derived.Test.YtmnamkcjldaoeaaKOrder4
import Derived.Outline
import Derived.Lib.Hide
import Derived.Laws.EntriesVeiled
namespace Go.Proofs.Ytmnamkcjldaoeaa.PAll
open Go.RowKit Go.Proofs.YtmnamkcjldaoeaaW.PrintWords Go.Proofs.YtmnamkcjldaoeaaW.PrintLast Go.Proofs.YtmnamkcjldaoeaaW.PrintMore
set_option linter.unusedVariables false
set_option linter.unusedSimpArgs false
def idxOf {α : Type} (p : α → Bool) (l : List α) : Int := match l.findIdx? p with | some i => (i : Int) | none => -1
theorem idxOf_hit {α : Type} (p : α → Bool) (d : α) (l : List α) (k : Nat) (hk : k < l.length) (hno : ∀ j, j < k → p (l.getD j d) = false) (hp : p (l.getD k d) = true) : idxOf p l = (k : Int) := by
 have h : l.findIdx? p = some k := by
  rw [List.findIdx?_eq_some_iff_getElem]
  refine ⟨hk, ?_, fun j hj => ?_⟩
  ·
   rw [List.getD_eq_getElem?_getD, List.getElem?_eq_getElem hk] at hp; exact hp
  ·
   have := hno j hj
   rw [List.getD_eq_getElem?_getD, List.getElem?_eq_getElem (by omega)] at this
   simpa using this
 unfold idxOf
 rw [h]
theorem idxOf_miss {α : Type} (p : α → Bool) (d : α) (l : List α) (hno : ∀ j, j < l.length → p (l.getD j d) = false) : idxOf p l = -1 := by
 have h : l.findIdx? p = none := by
  rw [List.findIdx?_eq_none_iff]
  intro x hx
  obtain ⟨j, hj, rfl⟩ := List.getElem_of_mem hx
  have := hno j hj
  rw [List.getD_eq_getElem?_getD, List.getElem?_eq_getElem hj] at this
  exact this
 unfold idxOf
 rw [h]
theorem idxOf_any {α : Type} (p : α → Bool) (l : List α) : decide (0 ≤ idxOf p l) = l.any p := by
 unfold idxOf
 cases h : l.findIdx? p with
 | none =>
  rw [List.findIdx?_eq_none_iff] at h
  have : l.any p = false := by rw [List.any_eq_false]; intro x hx; simp [h x hx]
  rw [this]; rfl
 | some i =>
  rw [List.findIdx?_eq_some_iff_getElem] at h
  obtain ⟨hi, hp, _⟩ := h
  have : l.any p = true := List.any_eq_true.2 ⟨_, List.getElem_mem hi, hp⟩
  rw [this]
  simp
theorem not_any_not {α : Type} (p : α → Bool) (l : List α) : (!(l.any fun x => !p x)) = l.all p := by
 induction l with
 | nil => rfl
 | cons x l ih => simp [← ih, Bool.not_or]
theorem indexG83 (A : Option Addr) (c : Nat) (l : List S85) (b : Nat) (p : S85 → Bool) (w : World) (hr : Kd.C k85 w A l.length l)
  (hf : ∀ (x : S85) (W : World), Below w.heap.size w W → Calls Try.prog 83 #[.agg #[.int .i64 x.f0, .int .i64 x.f1, .int .i64 x.f2, .int .i64 x.f3, .bool x.f4], .pointer (some ⟨b, 0, none⟩)] W fun e W' => e = .returned (.bool (p x)) ∧ Below W.heap.size W W') :
  Calls Try.prog 107 #[.slice A l.length c, .func (.func 83) #[] #[.pointer (some ⟨b, 0, none⟩)]] w fun e w' => e = .returned (.int .i64 (idxOf p l)) ∧ Below w.heap.size w w' := by
 have HF := Lib.hid hf
 clear hf
 have HR := Aside0.mk hr
 clear hr
 go_enter Try.func107, Try.ntmps107
 go_wp2
 go_loopw [8] (fun v wr => ∃ k : Nat, k ≤ l.length ∧ v = .int .i64 k ∧ Aside0 (∀ j, j < k → p (l.getD j z85) = false) ∧ Below w.heap.size w wr) (fun v _ => l.length - (intOf v).toNat)
 case atStart => exact ⟨0, Nat.zero_le _, rfl, ⟨fun j hj => absurd hj (Nat.not_lt_zero _)⟩, Below.refl _ _⟩
 case round =>
  obtain ⟨k, hk, rfl, hno, hb⟩ := hrel
  have hm : l.length ≤ 9223372036854775807 := HR.out.2.1
  by_cases hlt : k < l.length
  ·
   obtain ⟨ad, rfl, h0, h1, h2, h3, h4⟩ := at_T85 (Kd.C_below HR.out hb) (k : Int) (by omega) (by omega)
   rw [Int.toNat_natCast] at h0 h1 h2 h3 h4
   cases hp : p (rd_T85 l ↑k)
   ·
    go_wp2_with (go_at_call 83; (with_reducible refine (HF.out (rd_T85 l ↑k) _ hb).mono ?_); rintro e w1 ⟨rfl, hb1⟩)
    go_roundw
    case rel => exact ⟨k + 1, by omega, by go_num, ⟨fun j hj => by
     rcases Nat.lt_succ_iff_lt_or_eq.1 hj with h | rfl
     ·
      exact hno.out j h
     ·
      exact hp⟩, below_then hb (below_size hb) hb1⟩
    case measure => simp [intOf]; omega
   ·
    have HE := Lib.hid (idxOf_hit p z85 l k hlt hno.out hp)
    go_wp2_with (go_at_call 83; (with_reducible refine (HF.out (rd_T85 l ↑k) _ hb).mono ?_); rintro e w1 ⟨rfl, hb1⟩)
    go_ret
    exact ⟨by rw [HE.out]; rfl, below_then hb (below_size hb) hb1⟩
  ·
   have HE := Lib.hid (idxOf_miss p z85 l (fun j hj => hno.out j (by omega)))
   go_wp2
   go_ret
   exact ⟨by rw [HE.out]; rfl, hb⟩
theorem indexG94 (A : Option Addr) (c : Nat) (l : List S85) (p : S85 → Bool) (w : World) (hr : Kd.C k85 w A l.length l)
  (hf : ∀ (x : S85) (W : World), Below w.heap.size w W → Calls Try.prog 94 #[.agg #[.int .i64 x.f0, .int .i64 x.f1, .int .i64 x.f2, .int .i64 x.f3, .bool x.f4]] W fun e W' => e = .returned (.bool (p x)) ∧ Below W.heap.size W W') :
  Calls Try.prog 107 #[.slice A l.length c, .func (.func 94) #[] #[]] w fun e w' => e = .returned (.int .i64 (idxOf p l)) ∧ Below w.heap.size w w' := by
 have HF := Lib.hid hf
 clear hf
 have HR := Aside0.mk hr
 clear hr
 go_enter Try.func107, Try.ntmps107
 go_wp2
 go_loopw [8] (fun v wr => ∃ k : Nat, k ≤ l.length ∧ v = .int .i64 k ∧ Aside0 (∀ j, j < k → p (l.getD j z85) = false) ∧ Below w.heap.size w wr) (fun v _ => l.length - (intOf v).toNat)
 case atStart => exact ⟨0, Nat.zero_le _, rfl, ⟨fun j hj => absurd hj (Nat.not_lt_zero _)⟩, Below.refl _ _⟩
 case round =>
  obtain ⟨k, hk, rfl, hno, hb⟩ := hrel
  have hm : l.length ≤ 9223372036854775807 := HR.out.2.1
  by_cases hlt : k < l.length
  ·
   obtain ⟨ad, rfl, h0, h1, h2, h3, h4⟩ := at_T85 (Kd.C_below HR.out hb) (k : Int) (by omega) (by omega)
   rw [Int.toNat_natCast] at h0 h1 h2 h3 h4
   cases hp : p (rd_T85 l ↑k)
   ·
    go_wp2_with (go_at_call 94; (with_reducible refine (HF.out (rd_T85 l ↑k) _ hb).mono ?_); rintro e w1 ⟨rfl, hb1⟩)
    go_roundw
    case rel => exact ⟨k + 1, by omega, by go_num, ⟨fun j hj => by
     rcases Nat.lt_succ_iff_lt_or_eq.1 hj with h | rfl
     ·
      exact hno.out j h
     ·
      exact hp⟩, below_then hb (below_size hb) hb1⟩
    case measure => simp [intOf]; omega
   ·
    have HE := Lib.hid (idxOf_hit p z85 l k hlt hno.out hp)
    go_wp2_with (go_at_call 94; (with_reducible refine (HF.out (rd_T85 l ↑k) _ hb).mono ?_); rintro e w1 ⟨rfl, hb1⟩)
    go_ret
    exact ⟨by rw [HE.out]; rfl, below_then hb (below_size hb) hb1⟩
  ·
   have HE := Lib.hid (idxOf_miss p z85 l (fun j hj => hno.out j (by omega)))
   go_wp2
   go_ret
   exact ⟨by rw [HE.out]; rfl, hb⟩
theorem containsG (A : Option Addr) (c : Nat) (l : List S85) (b : Nat) (p : S85 → Bool) (w : World) (hr : Kd.C k85 w A l.length l)
  (hf : ∀ (x : S85) (W : World), Below w.heap.size w W → Calls Try.prog 83 #[.agg #[.int .i64 x.f0, .int .i64 x.f1, .int .i64 x.f2, .int .i64 x.f3, .bool x.f4], .pointer (some ⟨b, 0, none⟩)] W fun e W' => e = .returned (.bool (p x)) ∧ Below W.heap.size W W') :
  Calls Try.prog 82 #[.slice A l.length c, .func (.func 83) #[] #[.pointer (some ⟨b, 0, none⟩)]] w fun e w' => e = .returned (.bool (l.any p)) ∧ Below w.heap.size w w' := by
 have HF := Lib.hid (indexG83 A c l b p w hr hf)
 clear hf hr
 have HE := Lib.hid (idxOf_any p l)
 go_enter Try.func82, Try.ntmps82
 go_wp2_with (go_at_call 107; (with_reducible refine HF.out.mono ?_); rintro e w1 ⟨rfl, hb1⟩)
 go_ret
 exact ⟨by rw [← HE.out]; rfl, hb1⟩
theorem indexU85 (A : Option Addr) (c : Nat) (l : List Int) (b : Nat) (p : Int → Bool) (w : World) (hr : Kd.C (Kd.int .u8) w A l.length l)
  (hf : ∀ (x : Int) (W : World), Below w.heap.size w W → Calls Try.prog 85 #[.int .u8 x, .pointer (some ⟨b, 0, none⟩)] W fun e W' => e = .returned (.bool (p x)) ∧ Below W.heap.size W W') :
  Calls Try.prog 108 #[.slice A l.length c, .func (.func 85) #[] #[.pointer (some ⟨b, 0, none⟩)]] w fun e w' => e = .returned (.int .i64 (idxOf p l)) ∧ Below w.heap.size w w' := by
 have HF := Lib.hid hf
 clear hf
 have HR := Aside0.mk hr
 clear hr
 go_enter Try.func108, Try.ntmps108
 go_wp2
 go_loopw [8] (fun v wr => ∃ k : Nat, k ≤ l.length ∧ v = .int .i64 k ∧ Aside0 (∀ j, j < k → p (l.getD j 0) = false) ∧ Below w.heap.size w wr) (fun v _ => l.length - (intOf v).toNat)
 case atStart => exact ⟨0, Nat.zero_le _, rfl, ⟨fun j hj => absurd hj (Nat.not_lt_zero _)⟩, Below.refl _ _⟩
 case round =>
  obtain ⟨k, hk, rfl, hno, hb⟩ := hrel
  have hm : l.length ≤ 9223372036854775807 := HR.out.2.1
  by_cases hlt : k < l.length
  ·
   obtain ⟨ad, rfl, h0⟩ := Kd.at_int (Kd.C_below HR.out hb) (k : Int) (by omega) (by omega)
   rw [Int.toNat_natCast] at h0
   cases hp : p (rd l ↑k)
   ·
    go_wp2_with (go_at_call 85; (with_reducible refine (HF.out (rd l ↑k) _ hb).mono ?_); rintro e w1 ⟨rfl, hb1⟩)
    go_roundw
    case rel => exact ⟨k + 1, by omega, by go_num, ⟨fun j hj => by
     rcases Nat.lt_succ_iff_lt_or_eq.1 hj with h | rfl
     ·
      exact hno.out j h
     ·
      exact hp⟩, below_then hb (below_size hb) hb1⟩
    case measure => simp [intOf]; omega
   ·
    have HE := Lib.hid (idxOf_hit p 0 l k hlt hno.out hp)
    go_wp2_with (go_at_call 85; (with_reducible refine (HF.out (rd l ↑k) _ hb).mono ?_); rintro e w1 ⟨rfl, hb1⟩)
    go_ret
    exact ⟨by rw [HE.out]; rfl, below_then hb (below_size hb) hb1⟩
  ·
   have HE := Lib.hid (idxOf_miss p 0 l (fun j hj => hno.out j (by omega)))
   go_wp2
   go_ret
   exact ⟨by rw [HE.out]; rfl, hb⟩
theorem containsU (A : Option Addr) (c : Nat) (l : List Int) (b : Nat) (p : Int → Bool) (w : World) (hr : Kd.C (Kd.int .u8) w A l.length l)
  (hf : ∀ (x : Int) (W : World), Below w.heap.size w W → Calls Try.prog 85 #[.int .u8 x, .pointer (some ⟨b, 0, none⟩)] W fun e W' => e = .returned (.bool (p x)) ∧ Below W.heap.size W W') :
  Calls Try.prog 84 #[.slice A l.length c, .func (.func 85) #[] #[.pointer (some ⟨b, 0, none⟩)]] w fun e w' => e = .returned (.bool (l.any p)) ∧ Below w.heap.size w w' := by
 have HF := Lib.hid (indexU85 A c l b p w hr hf)
 clear hf hr
 have HE := Lib.hid (idxOf_any p l)
 go_enter Try.func84, Try.ntmps84
 go_wp2_with (go_at_call 108; (with_reducible refine HF.out.mono ?_); rintro e w1 ⟨rfl, hb1⟩)
 go_ret
 exact ⟨by rw [← HE.out]; rfl, hb1⟩
theorem allclG52 (n0 : Int) (A0 : Option Addr) (m0 c0 : Nat) (x : S85) (b : Nat) (q : S85 → Bool) (w : World) (hcell : w.cell? ⟨b, 0, none⟩ = some (.func (.func 52) #[.agg #[.int .i64 n0, .slice A0 m0 c0]] #[]))
  (hg : ∀ W : World, Below w.heap.size w W → Calls Try.prog 52 #[.agg #[.int .i64 n0, .slice A0 m0 c0], .agg #[.int .i64 x.f0, .int .i64 x.f1, .int .i64 x.f2, .int .i64 x.f3, .bool x.f4]] W fun e W' => e = .returned (.bool (q x)) ∧ Below W.heap.size W W') :
  Calls Try.prog 83 #[.agg #[.int .i64 x.f0, .int .i64 x.f1, .int .i64 x.f2, .int .i64 x.f3, .bool x.f4], .pointer (some ⟨b, 0, none⟩)] w fun e w' => e = .returned (.bool (!q x)) ∧ Below w.heap.size w w' := by
 have HG := Lib.hid hg
 clear hg
 have hlt := World.block_lt_of_cell? w _ hcell
 go_enter Try.func83, Try.ntmps83
 go_wp2_with (go_at_call 52; (with_reducible refine (HG.out _ ?hb).mono ?_); (case hb => exact below_alloc (Below.refl _ _) _); rintro e w1 ⟨rfl, hb1⟩)
 go_ret
 exact ⟨rfl, below_then (below_alloc (Below.refl _ _) _) (by simp) hb1⟩
theorem allG52 (n0 : Int) (A0 : Option Addr) (m0 c0 : Nat) (A : Option Addr) (c : Nat) (l : List S85) (q : S85 → Bool) (w : World) (hr : Kd.C k85 w A l.length l)
  (hg : ∀ (x : S85) (W : World), Below w.heap.size w W → Calls Try.prog 52 #[.agg #[.int .i64 n0, .slice A0 m0 c0], .agg #[.int .i64 x.f0, .int .i64 x.f1, .int .i64 x.f2, .int .i64 x.f3, .bool x.f4]] W fun e W' => e = .returned (.bool (q x)) ∧ Below W.heap.size W W') :
  Calls Try.prog 51 #[.slice A l.length c, .func (.func 52) #[.agg #[.int .i64 n0, .slice A0 m0 c0]] #[]] w fun e w' => e = .returned (.bool (l.all q)) ∧ Below w.heap.size w w' := by
 have hw : Below w.heap.size w (w.alloc (.cells #[.func (.func 52) #[.agg #[.int .i64 n0, .slice A0 m0 c0]] #[]] 88 (0, 0))) := below_alloc (Below.refl _ _) _
 have HF := Lib.hid (containsG A c l w.heap.size (fun x => !q x) (w.alloc (.cells #[.func (.func 52) #[.agg #[.int .i64 n0, .slice A0 m0 c0]] #[]] 88 (0, 0))) (Kd.C_below hr hw) (fun x W hW => allclG52 n0 A0 m0 c0 x w.heap.size q W
  ((hW.cell (by simp)).trans (World.cell?_alloc_new _ _ _ _)) (fun W' hW' => hg x W' (below_then (below_then hw (by simp) hW) (below_then hw (by simp) hW).size hW'))))
 have HE := Lib.hid (not_any_not q l)
 clear hg hr
 go_enter Try.func51, Try.ntmps51
 go_wp2_with (go_at_call 82; (with_reducible refine HF.out.mono ?_); rintro e w1 ⟨rfl, hb1⟩)
 go_ret
 exact ⟨by rw [← HE.out]; rfl, below_then (below_alloc (Below.refl _ _) _) (by simp) hb1⟩
theorem allclU54 (x : Int) (b : Nat) (q : Int → Bool) (w : World) (hcell : w.cell? ⟨b, 0, none⟩ = some (.func (.func 54) #[] #[]))
  (hg : ∀ W : World, Below w.heap.size w W → Calls Try.prog 54 #[.int .u8 x] W fun e W' => e = .returned (.bool (q x)) ∧ Below W.heap.size W W') :
  Calls Try.prog 85 #[.int .u8 x, .pointer (some ⟨b, 0, none⟩)] w fun e w' => e = .returned (.bool (!q x)) ∧ Below w.heap.size w w' := by
 have HG := Lib.hid hg
 clear hg
 have hlt := World.block_lt_of_cell? w _ hcell
 go_enter Try.func85, Try.ntmps85
 go_wp2_with (go_at_call 54; (with_reducible refine (HG.out _ ?hb).mono ?_); (case hb => exact Below.refl _ _); rintro e w1 ⟨rfl, hb1⟩)
 go_ret
 exact ⟨rfl, hb1⟩
theorem allU54 (A : Option Addr) (c : Nat) (l : List Int) (q : Int → Bool) (w : World) (hr : Kd.C (Kd.int .u8) w A l.length l)
  (hg : ∀ (x : Int) (W : World), Below w.heap.size w W → Calls Try.prog 54 #[.int .u8 x] W fun e W' => e = .returned (.bool (q x)) ∧ Below W.heap.size W W') :
  Calls Try.prog 53 #[.slice A l.length c, .func (.func 54) #[] #[]] w fun e w' => e = .returned (.bool (l.all q)) ∧ Below w.heap.size w w' := by
 have hw : Below w.heap.size w (w.alloc (.cells #[.func (.func 54) #[] #[]] 90 (0, 0))) := below_alloc (Below.refl _ _) _
 have HF := Lib.hid (containsU A c l w.heap.size (fun x => !q x) (w.alloc (.cells #[.func (.func 54) #[] #[]] 90 (0, 0))) (Kd.C_below hr hw) (fun x W hW => allclU54 x w.heap.size q W
  ((hW.cell (by simp)).trans (World.cell?_alloc_new _ _ _ _)) (fun W' hW' => hg x W' (below_then (below_then hw (by simp) hW) (below_then hw (by simp) hW).size hW'))))
 have HE := Lib.hid (not_any_not q l)
 clear hg hr
 go_enter Try.func53, Try.ntmps53
 go_wp2_with (go_at_call 84; (with_reducible refine HF.out.mono ?_); rintro e w1 ⟨rfl, hb1⟩)
 go_ret
 exact ⟨by rw [← HE.out]; rfl, below_then (below_alloc (Below.refl _ _) _) (by simp) hb1⟩
theorem allclU60 (x : Int) (b : Nat) (q : Int → Bool) (w : World) (hcell : w.cell? ⟨b, 0, none⟩ = some (.func (.func 60) #[] #[]))
  (hg : ∀ W : World, Below w.heap.size w W → Calls Try.prog 60 #[.int .u8 x] W fun e W' => e = .returned (.bool (q x)) ∧ Below W.heap.size W W') :
  Calls Try.prog 85 #[.int .u8 x, .pointer (some ⟨b, 0, none⟩)] w fun e w' => e = .returned (.bool (!q x)) ∧ Below w.heap.size w w' := by
 have HG := Lib.hid hg
 clear hg
 have hlt := World.block_lt_of_cell? w _ hcell
 go_enter Try.func85, Try.ntmps85
 go_wp2_with (go_at_call 60; (with_reducible refine (HG.out _ ?hb).mono ?_); (case hb => exact Below.refl _ _); rintro e w1 ⟨rfl, hb1⟩)
 go_ret
 exact ⟨rfl, hb1⟩
theorem allU60 (A : Option Addr) (c : Nat) (l : List Int) (q : Int → Bool) (w : World) (hr : Kd.C (Kd.int .u8) w A l.length l)
  (hg : ∀ (x : Int) (W : World), Below w.heap.size w W → Calls Try.prog 60 #[.int .u8 x] W fun e W' => e = .returned (.bool (q x)) ∧ Below W.heap.size W W') :
  Calls Try.prog 53 #[.slice A l.length c, .func (.func 60) #[] #[]] w fun e w' => e = .returned (.bool (l.all q)) ∧ Below w.heap.size w w' := by
 have hw : Below w.heap.size w (w.alloc (.cells #[.func (.func 60) #[] #[]] 90 (0, 0))) := below_alloc (Below.refl _ _) _
 have HF := Lib.hid (containsU A c l w.heap.size (fun x => !q x) (w.alloc (.cells #[.func (.func 60) #[] #[]] 90 (0, 0))) (Kd.C_below hr hw) (fun x W hW => allclU60 x w.heap.size q W
  ((hW.cell (by simp)).trans (World.cell?_alloc_new _ _ _ _)) (fun W' hW' => hg x W' (below_then (below_then hw (by simp) hW) (below_then hw (by simp) hW).size hW'))))
 have HE := Lib.hid (not_any_not q l)
 clear hg hr
 go_enter Try.func53, Try.ntmps53
 go_wp2_with (go_at_call 84; (with_reducible refine HF.out.mono ?_); rintro e w1 ⟨rfl, hb1⟩)
 go_ret
 exact ⟨by rw [← HE.out]; rfl, below_then (below_alloc (Below.refl _ _) _) (by simp) hb1⟩
end Go.Proofs.Ytmnamkcjldaoeaa.PAll
namespace Go.Proofs.Ytmnamkcjldaoeaa.PAll
open Go.RowKit Go.Proofs.YtmnamkcjldaoeaaW.PrintWords Go.Proofs.YtmnamkcjldaoeaaW.PrintLast Go.Proofs.YtmnamkcjldaoeaaW.PrintMore
set_option linter.unusedVariables false
set_option linter.unusedSimpArgs false
def gameB (n : Int) (g : S85) : Bool :=
 decide (0 ≤ g.f2) && decide (g.f2 ≤ 3000) && decide (0 ≤ g.f3) && decide (g.f3 ≤ 3000) && decide (0 ≤ g.f0) && decide (g.f0 < n) && decide (0 ≤ g.f1) && decide (g.f1 < n) && !decide (g.f0 = g.f1) && (!g.f4 || (decide (g.f2 = 0) && decide (g.f3 = 0)))
def teamsB (n : Int) : Bool := decide (2 ≤ n) && decide (n ≤ 6)
def checkF (n : Int) (l : List S85) : Int := if 20 < l.length then 3 else if teamsB n && l.all (gameB n) then 0 else 1
def league_CheckLeague.f (a0_0 : Int) (l0_1 : List (S85)) : Option (Int) := some (checkF a0_0 l0_1)
theorem within_eq (a b c : Int) : league_within.f a b c = some (decide (b ≤ a) && decide (a ≤ c)) := by
 unfold league_within.f
 by_cases h : b ≤ a <;> simp [h]
theorem teams_eq (n : Int) : league_teams.f n = some (teamsB n) := by
 unfold league_teams.f teamsB
 rw [within_eq]; rfl
theorem team_eq (n : Int) (l : List S85) (t : Int) (h2 : 2 ≤ n) (h6 : n ≤ 6) : league_League_team.f n l t = some (decide (0 ≤ t) && decide (t < n)) := by
 unfold league_League_team.f
 rw [within_eq]
 have e : wrap64 (n - 1) = n - 1 := by unfold wrap64; omega
 rw [e]
 simp only [Option.bind_some]
 congr 2
 exact decide_eq_decide.2 (by omega)
theorem game_eq (n : Int) (l : List S85) (g : S85) (h2 : 2 ≤ n) (h6 : n ≤ 6) : league_League_game.f n l g.f0 g.f1 g.f2 g.f3 g.f4 = some (gameB n g) := by
 unfold league_League_game.f gameB
 simp only [within_eq, team_eq n l _ h2 h6, Option.bind_some]
 by_cases a1 : 0 ≤ g.f2 <;> by_cases a2 : g.f2 ≤ 3000 <;> by_cases a3 : 0 ≤ g.f0 <;> by_cases a4 : g.f0 < n <;> by_cases a5 : 0 ≤ g.f1 <;> by_cases a6 : g.f1 < n <;> by_cases a7 : g.f0 = g.f1 <;> simp [a1, a2, a3, a4, a5, a6, a7]
 by_cases a8 : 0 ≤ g.f3 <;> by_cases a9 : g.f3 ≤ 3000 <;> cases h : g.f4 <;> by_cases b1 : g.f2 = 0 <;> simp [a8, a9, b1]
 by_cases b2 : g.f3 = 0 <;> simp [b2]
set_option maxHeartbeats 1000000 in
theorem league_CheckLeague.calls (a0_0 : Int) (A0_1 : Option Addr) (c0_1 : Nat) (l0_1 : List (S85)) (r : Int) (w : World) (hr0_1 : Kd.C k85 w A0_1 l0_1.length l0_1) (hc0_1 : l0_1.length ≤ c0_1) (h : league_CheckLeague.f a0_0 l0_1 = some r) :
  Calls Try.prog 17 #[.agg #[.int .i64 a0_0, .slice A0_1 l0_1.length c0_1]] w fun e w' => e = .returned (.int .i64 r) ∧ Below w.heap.size w w' := by
 have HE := Lib.hid (Option.some.inj h)
 clear h
 have hm : l0_1.length ≤ 9223372036854775807 := hr0_1.2.1
 have HR := Aside0.mk hr0_1
 clear hr0_1
 have hw : ∀ o, Below w.heap.size w (w.alloc o) := fun o => below_alloc (Below.refl _ _) o
 have HW := Aside0.mk hw
 clear hw
 by_cases h1 : 20 < l0_1.length
 ·
  have HF := Lib.hid (show checkF a0_0 l0_1 = 3 by unfold checkF; rw [if_pos h1])
  go_enter Try.func17, Try.ntmps17
  go_wp2
  go_ret
  exact ⟨by rw [← HE.out, HF.out]; rfl, HW.out _⟩
 ·
  cases h2 : teamsB a0_0
  ·
   have HF := Lib.hid (show checkF a0_0 l0_1 = 1 by unfold checkF; rw [if_neg h1, h2]; rfl)
   have HT := Lib.hid (teams_eq a0_0)
   go_enter Try.func17, Try.ntmps17
   go_wp2_with (go_at_call 50; (with_reducible refine (league_teams.calls a0_0 false _ (by rw [HT.out, h2])).mono ?_); rintro e w1 ⟨rfl, hb1⟩)
   go_ret
   exact ⟨by rw [← HE.out, HF.out]; rfl, below_then (HW.out _) (by simp) hb1.below⟩
  ·
   have hn : 2 ≤ a0_0 ∧ a0_0 ≤ 6 := by unfold teamsB at h2; simpa using h2
   have HT := Lib.hid (teams_eq a0_0)
   have HF : Hid (checkF a0_0 l0_1 = if l0_1.all (gameB a0_0) then 0 else 1) := by unfold checkF; rw [if_neg h1, h2]; rfl
   have HA := fun (W : World) (hW : Below w.heap.size w W) => allG52 a0_0 A0_1 l0_1.length c0_1 A0_1 c0_1 l0_1 (gameB a0_0) W (Kd.C_below HR.out hW) (fun x W' hW' =>
    (league_League_game.calls a0_0 A0_1 c0_1 l0_1 x.f0 x.f1 x.f2 x.f3 x.f4 (gameB a0_0 x) W' (Kd.C_below HR.out (below_then hW hW.size hW')) hc0_1 (game_eq a0_0 l0_1 x hn.1 hn.2)))
   have HA := Lib.hid HA
   have hc := Aside0.mk hc0_1
   clear hc0_1
   cases h3 : l0_1.all (gameB a0_0)
   all_goals
    go_enter Try.func17, Try.ntmps17
    go_wp2_with (first | (go_at_call 50; (with_reducible refine (league_teams.calls a0_0 true _ (by rw [HT.out, h2])).mono ?_); rintro e w1 ⟨rfl, ⟨nd, rfl⟩⟩) | (go_at_call 51; (with_reducible refine (HA.out _ ?hb).mono ?_); (case hb => exact pw_below_drewN (HW.out _) _); rintro e w2 ⟨rfl, hb2⟩))
    go_ret
    exact ⟨by rw [← HE.out, HF.out, h3]; rfl, below_then (pw_below_drewN (HW.out _) _) (by simp) hb2⟩
end Go.Proofs.Ytmnamkcjldaoeaa.PAll
namespace Go.Proofs.Ytmnamkcjldaoeaa.PAll
open Go.RowKit Go.Proofs.YtmnamkcjldaoeaaW.PrintWords Go.Proofs.YtmnamkcjldaoeaaW.PrintLast Go.Proofs.YtmnamkcjldaoeaaW.PrintMore
attribute [local go_sem] max2_int min2_int max_two min_two max_three min_three max_four min_four   -- for this text's walks alone
set_option linter.unusedVariables false
set_option linter.unusedSimpArgs false
def league_League_asked.f (a0_0 : Int) (l0_1 : List (S85)) (a1 : Int) : Option (Int) := (league_CheckLeague.f a0_0 l0_1).bind fun t170 => (if t170 = 0 then ((league_League_team.f a0_0 l0_1 a1).bind fun t171 => (if t171 = true then (some 0) else (some 2))) else (some t170))
set_option maxHeartbeats 8000000 in
set_option maxRecDepth 100000 in
theorem league_League_asked.calls (a0_0 : Int) (A0_1 : Option Addr) (c0_1 : Nat) (l0_1 : List (S85)) (a1 : Int) (r : Int) (w : World) (hr0_1 : Kd.C k85 w A0_1 l0_1.length l0_1) (hc0_1 : l0_1.length ≤ c0_1) (h : league_League_asked.f a0_0 l0_1 a1 = some r) :
  Calls Try.prog 69 #[.agg #[.int .i64 a0_0, .slice A0_1 l0_1.length c0_1], .int .i64 a1] w fun e w' => e = .returned (.int .i64 r) ∧ Below w.heap.size w w' := by
 have hu32 := Try.underlying32
 have HR0_1 := Aside0.mk hr0_1
 have HC0_1 := Aside0.mk hc0_1
 clear hr0_1 hc0_1
 have HB := Aside0.mk (Below.refl w.heap.size w)
 have H : ((league_CheckLeague.f a0_0 l0_1).bind fun t170 => (if t170 = 0 then ((league_League_team.f a0_0 l0_1 a1).bind fun t171 => (if t171 = true then (some 0) else (some 2))) else (some t170))) = some r := h
 clear h
 replace H := Option.bind_eq_some_iff.mp H
 obtain ⟨t170, A30, H⟩ := H
 replace H : (if t170 = 0 then ((league_League_team.f a0_0 l0_1 a1).bind fun t171 => (if t171 = true then (some 0) else (some 2))) else (some t170)) = some r := H
 have A3 := Aside0.mk A30
 clear A30
 by_cases c4 : t170 = 0
 ·
  rw [if_pos c4] at H
  have c4b0 : (t170 == 0) = true := beq_iff_eq.mpr c4
  have c4b1 : (t170 != 0) = false := bne_eq_false_iff_eq.mpr c4
  clear c4
  replace H := Option.bind_eq_some_iff.mp H
  obtain ⟨t171, A50, H⟩ := H
  replace H : (if t171 = true then (some 0) else (some 2)) = some r := H
  have A5 := Aside0.mk A50
  clear A50
  by_cases c6 : t171 = true
  ·
   subst c6
   have H1 : (some 0) = some r := by rw [if_pos rfl] at H; exact H
   clear H
   have H := H1
   clear H1
   obtain rfl := Option.some.inj H
   go_enter Try.func69, Try.ntmps69
   go_wp2_with (first | ((with_reducible refine gate_dst (N := 2) rfl ?_); refine box_event ?hg (N := 2) ?hd (cs := #[.int .i64 a0_0, .slice A0_1 l0_1.length c0_1]) (t := 32) ?hr ?_; (case hd => rfl); (case hg => rfl); (case hr => first | (go_simp; done) | (go_simp; rfl)); intro gb169 hg w7 hbox hb; have n0_ := Aside0.mk (below_step (by repeat (first | (with_reducible first | exact HB.out | apply below_alloc | apply pw_below_drewN | apply below_drew1) | exact HB.out)) hb); have n1_ := Aside0.mk (hbox); have n2_ := Aside0.mk ((by rw [hg]; exact (below_size (by repeat (first | (with_reducible first | exact HB.out | apply below_alloc | apply pw_below_drewN | apply below_drew1) | exact HB.out))) : w.heap.size ≤ gb169)); have n3_ := Aside0.mk ((by rw [hg]; exact (below_size (by repeat (first | (with_reducible first | exact HB.out | apply below_alloc | apply pw_below_drewN | apply below_drew1) | exact HB.out))) : w.heap.size ≤ gb169)); clear HB; have HB := n0_; have BK169 := n1_; have GW169 := n2_; have GE169 := n3_; clear n0_ n1_ n2_ n3_; clear hb hbox hg; have hcz8_0 : w7.cell? ⟨gb169, 0, none⟩ = some (.int .i64 a0_0) := (blk_cell BK169.out 0).trans rfl; have hcz8_1 : w7.cell? ⟨gb169, 1, none⟩ = some (.slice A0_1 l0_1.length c0_1) := (blk_cell BK169.out 1).trans rfl; have hfz8_0 := blk_frozen BK169.out 0; have hfz8_1 := blk_frozen BK169.out 1) | ((with_reducible refine gate_callee (f := 17) rfl ?_); refine goesL_ (some 7) rfl rfl Try.func17 (by kernel_rfl) rfl #[.agg #[.int .i64 a0_0, .slice A0_1 l0_1.length c0_1]] rfl (by (try simp only [List.map_toArray, List.map_cons, List.map_nil]); first | done | rfl | (simp only [List.length_drop, List.length_take]; rfl)) ?_; (with_reducible refine (league_CheckLeague.calls a0_0 _ _ l0_1 t170 _ ?side1 ?side2 A3.out).mono ?_); (case side1 => repeat (first | exact (Kd.C_below HR0_1.out HB.out) | (with_reducible refine Kd.C_alloc ?_ _) | (with_reducible refine Kd.C_drewN ?_ _) | (with_reducible refine Kd.C_drew ?_))); (case side2 => exact HC0_1.out); rintro e w9 ⟨rfl, hb⟩; refine ⟨_, rfl, ?_⟩; have n0_ := Aside0.mk (blk_below (g := gb169) (o := .cells #[.int .i64 a0_0, .slice A0_1 l0_1.length c0_1] 32 (0, 0)) (by (with_reducible repeat (first | refine blk_drewN ?_ _ | refine blk_drew ?_ | refine blk_alloc ?_ _)); exact BK169.out) hb); have n1_ := Aside0.mk (below_step (by repeat (first | (with_reducible first | exact HB.out | apply below_alloc | apply pw_below_drewN | apply below_drew1 | refine below_set ?_ GE169.out) | exact HB.out)) hb); clear BK169; clear HB; have BK169 := n0_; have HB := n1_; clear n0_ n1_; (try clear hb); (try clear hb2); (try clear hk); (try clear hi); have hcz10_0 : w9.cell? ⟨gb169, 0, none⟩ = some (.int .i64 a0_0) := (blk_cell BK169.out 0).trans rfl; have hcz10_1 : w9.cell? ⟨gb169, 1, none⟩ = some (.slice A0_1 l0_1.length c0_1) := (blk_cell BK169.out 1).trans rfl; have hfz10_0 := blk_frozen BK169.out 0; have hfz10_1 := blk_frozen BK169.out 1) | ((with_reducible refine gate_callee (f := 74) rfl ?_); refine goesL_ (some 13) rfl rfl Try.func74 (by kernel_rfl) rfl #[.agg #[.int .i64 a0_0, .slice A0_1 l0_1.length c0_1], .int .i64 a1] rfl (by (try simp only [List.map_toArray, List.map_cons, List.map_nil]); first | done | rfl | (simp only [List.length_drop, List.length_take]; rfl)) ?_; (with_reducible refine (league_League_team.calls a0_0 _ _ l0_1 a1 true _ ?side1 ?side2 A5.out).mono ?_); (case side1 => repeat (first | exact (Kd.C_below HR0_1.out HB.out) | (with_reducible refine Kd.C_alloc ?_ _) | (with_reducible refine Kd.C_drewN ?_ _) | (with_reducible refine Kd.C_drew ?_))); (case side2 => exact HC0_1.out); rintro e w11 ⟨rfl, hb⟩; refine ⟨_, rfl, ?_⟩; have n0_ := Aside0.mk (blk_below (g := gb169) (o := .cells #[.int .i64 a0_0, .slice A0_1 l0_1.length c0_1] 32 (0, 0)) (by (with_reducible repeat (first | refine blk_drewN ?_ _ | refine blk_drew ?_ | refine blk_alloc ?_ _)); exact BK169.out) hb); have n1_ := Aside0.mk (below_step (by repeat (first | (with_reducible first | exact HB.out | apply below_alloc | apply pw_below_drewN | apply below_drew1 | refine below_set ?_ GE169.out) | exact HB.out)) hb); clear BK169; clear HB; have BK169 := n0_; have HB := n1_; clear n0_ n1_; (try clear hb); (try clear hb2); (try clear hk); (try clear hi)))
   go_ret
   exact ⟨by first | rfl | (simp [errW_none, errW_some] <;> rfl) | (simp [*, errW_none, errW_some] <;> rfl), by repeat (first | (with_reducible first | exact HB.out | apply below_alloc | apply pw_below_drewN | apply below_drew1 | refine below_set ?_ GE169.out) | exact HB.out)⟩
  ·
   replace c6 := Bool.eq_false_iff.mpr c6
   subst c6
   have H1 : (some 2) = some r := by rw [if_neg (show ¬ (false = true) by decide)] at H; exact H
   clear H
   have H := H1
   clear H1
   obtain rfl := Option.some.inj H
   go_enter Try.func69, Try.ntmps69
   go_wp2_with (first | ((with_reducible refine gate_dst (N := 2) rfl ?_); refine box_event ?hg (N := 2) ?hd (cs := #[.int .i64 a0_0, .slice A0_1 l0_1.length c0_1]) (t := 32) ?hr ?_; (case hd => rfl); (case hg => rfl); (case hr => first | (go_simp; done) | (go_simp; rfl)); intro gb169 hg w12 hbox hb; have n0_ := Aside0.mk (below_step (by repeat (first | (with_reducible first | exact HB.out | apply below_alloc | apply pw_below_drewN | apply below_drew1) | exact HB.out)) hb); have n1_ := Aside0.mk (hbox); have n2_ := Aside0.mk ((by rw [hg]; exact (below_size (by repeat (first | (with_reducible first | exact HB.out | apply below_alloc | apply pw_below_drewN | apply below_drew1) | exact HB.out))) : w.heap.size ≤ gb169)); have n3_ := Aside0.mk ((by rw [hg]; exact (below_size (by repeat (first | (with_reducible first | exact HB.out | apply below_alloc | apply pw_below_drewN | apply below_drew1) | exact HB.out))) : w.heap.size ≤ gb169)); clear HB; have HB := n0_; have BK169 := n1_; have GW169 := n2_; have GE169 := n3_; clear n0_ n1_ n2_ n3_; clear hb hbox hg; have hcz13_0 : w12.cell? ⟨gb169, 0, none⟩ = some (.int .i64 a0_0) := (blk_cell BK169.out 0).trans rfl; have hcz13_1 : w12.cell? ⟨gb169, 1, none⟩ = some (.slice A0_1 l0_1.length c0_1) := (blk_cell BK169.out 1).trans rfl; have hfz13_0 := blk_frozen BK169.out 0; have hfz13_1 := blk_frozen BK169.out 1) | ((with_reducible refine gate_callee (f := 17) rfl ?_); refine goesL_ (some 7) rfl rfl Try.func17 (by kernel_rfl) rfl #[.agg #[.int .i64 a0_0, .slice A0_1 l0_1.length c0_1]] rfl (by (try simp only [List.map_toArray, List.map_cons, List.map_nil]); first | done | rfl | (simp only [List.length_drop, List.length_take]; rfl)) ?_; (with_reducible refine (league_CheckLeague.calls a0_0 _ _ l0_1 t170 _ ?side1 ?side2 A3.out).mono ?_); (case side1 => repeat (first | exact (Kd.C_below HR0_1.out HB.out) | (with_reducible refine Kd.C_alloc ?_ _) | (with_reducible refine Kd.C_drewN ?_ _) | (with_reducible refine Kd.C_drew ?_))); (case side2 => exact HC0_1.out); rintro e w14 ⟨rfl, hb⟩; refine ⟨_, rfl, ?_⟩; have n0_ := Aside0.mk (blk_below (g := gb169) (o := .cells #[.int .i64 a0_0, .slice A0_1 l0_1.length c0_1] 32 (0, 0)) (by (with_reducible repeat (first | refine blk_drewN ?_ _ | refine blk_drew ?_ | refine blk_alloc ?_ _)); exact BK169.out) hb); have n1_ := Aside0.mk (below_step (by repeat (first | (with_reducible first | exact HB.out | apply below_alloc | apply pw_below_drewN | apply below_drew1 | refine below_set ?_ GE169.out) | exact HB.out)) hb); clear BK169; clear HB; have BK169 := n0_; have HB := n1_; clear n0_ n1_; (try clear hb); (try clear hb2); (try clear hk); (try clear hi); have hcz15_0 : w14.cell? ⟨gb169, 0, none⟩ = some (.int .i64 a0_0) := (blk_cell BK169.out 0).trans rfl; have hcz15_1 : w14.cell? ⟨gb169, 1, none⟩ = some (.slice A0_1 l0_1.length c0_1) := (blk_cell BK169.out 1).trans rfl; have hfz15_0 := blk_frozen BK169.out 0; have hfz15_1 := blk_frozen BK169.out 1) | ((with_reducible refine gate_callee (f := 74) rfl ?_); refine goesL_ (some 13) rfl rfl Try.func74 (by kernel_rfl) rfl #[.agg #[.int .i64 a0_0, .slice A0_1 l0_1.length c0_1], .int .i64 a1] rfl (by (try simp only [List.map_toArray, List.map_cons, List.map_nil]); first | done | rfl | (simp only [List.length_drop, List.length_take]; rfl)) ?_; (with_reducible refine (league_League_team.calls a0_0 _ _ l0_1 a1 false _ ?side1 ?side2 A5.out).mono ?_); (case side1 => repeat (first | exact (Kd.C_below HR0_1.out HB.out) | (with_reducible refine Kd.C_alloc ?_ _) | (with_reducible refine Kd.C_drewN ?_ _) | (with_reducible refine Kd.C_drew ?_))); (case side2 => exact HC0_1.out); rintro e w16 ⟨rfl, hb⟩; refine ⟨_, rfl, ?_⟩; have n0_ := Aside0.mk (blk_below (g := gb169) (o := .cells #[.int .i64 a0_0, .slice A0_1 l0_1.length c0_1] 32 (0, 0)) (by (with_reducible repeat (first | refine blk_drewN ?_ _ | refine blk_drew ?_ | refine blk_alloc ?_ _)); exact BK169.out) hb); have n1_ := Aside0.mk (below_step (by repeat (first | (with_reducible first | exact HB.out | apply below_alloc | apply pw_below_drewN | apply below_drew1 | refine below_set ?_ GE169.out) | exact HB.out)) hb); clear BK169; clear HB; have BK169 := n0_; have HB := n1_; clear n0_ n1_; (try clear hb); (try clear hb2); (try clear hk); (try clear hi)))
   go_ret
   exact ⟨by first | rfl | (simp [errW_none, errW_some] <;> rfl) | (simp [*, errW_none, errW_some] <;> rfl), by repeat (first | (with_reducible first | exact HB.out | apply below_alloc | apply pw_below_drewN | apply below_drew1 | refine below_set ?_ GE169.out) | exact HB.out)⟩
 ·
  rw [if_neg c4] at H
  have c4b0 : (t170 == 0) = false := beq_eq_false_iff_ne.mpr c4
  have c4b1 : (t170 != 0) = true := bne_iff_ne.mpr c4
  obtain rfl := Option.some.inj H
  go_enter Try.func69, Try.ntmps69
  go_wp2_with (first | ((with_reducible refine gate_dst (N := 2) rfl ?_); refine box_event ?hg (N := 2) ?hd (cs := #[.int .i64 a0_0, .slice A0_1 l0_1.length c0_1]) (t := 32) ?hr ?_; (case hd => rfl); (case hg => rfl); (case hr => first | (go_simp; done) | (go_simp; rfl)); intro gb169 hg w17 hbox hb; have n0_ := Aside0.mk (below_step (by repeat (first | (with_reducible first | exact HB.out | apply below_alloc | apply pw_below_drewN | apply below_drew1) | exact HB.out)) hb); have n1_ := Aside0.mk (hbox); have n2_ := Aside0.mk ((by rw [hg]; exact (below_size (by repeat (first | (with_reducible first | exact HB.out | apply below_alloc | apply pw_below_drewN | apply below_drew1) | exact HB.out))) : w.heap.size ≤ gb169)); have n3_ := Aside0.mk ((by rw [hg]; exact (below_size (by repeat (first | (with_reducible first | exact HB.out | apply below_alloc | apply pw_below_drewN | apply below_drew1) | exact HB.out))) : w.heap.size ≤ gb169)); clear HB; have HB := n0_; have BK169 := n1_; have GW169 := n2_; have GE169 := n3_; clear n0_ n1_ n2_ n3_; clear hb hbox hg; have hcz18_0 : w17.cell? ⟨gb169, 0, none⟩ = some (.int .i64 a0_0) := (blk_cell BK169.out 0).trans rfl; have hcz18_1 : w17.cell? ⟨gb169, 1, none⟩ = some (.slice A0_1 l0_1.length c0_1) := (blk_cell BK169.out 1).trans rfl; have hfz18_0 := blk_frozen BK169.out 0; have hfz18_1 := blk_frozen BK169.out 1) | ((with_reducible refine gate_callee (f := 17) rfl ?_); refine goesL_ (some 7) rfl rfl Try.func17 (by kernel_rfl) rfl #[.agg #[.int .i64 a0_0, .slice A0_1 l0_1.length c0_1]] rfl (by (try simp only [List.map_toArray, List.map_cons, List.map_nil]); first | done | rfl | (simp only [List.length_drop, List.length_take]; rfl)) ?_; (with_reducible refine (league_CheckLeague.calls a0_0 _ _ l0_1 t170 _ ?side1 ?side2 A3.out).mono ?_); (case side1 => repeat (first | exact (Kd.C_below HR0_1.out HB.out) | (with_reducible refine Kd.C_alloc ?_ _) | (with_reducible refine Kd.C_drewN ?_ _) | (with_reducible refine Kd.C_drew ?_))); (case side2 => exact HC0_1.out); rintro e w19 ⟨rfl, hb⟩; refine ⟨_, rfl, ?_⟩; have n0_ := Aside0.mk (blk_below (g := gb169) (o := .cells #[.int .i64 a0_0, .slice A0_1 l0_1.length c0_1] 32 (0, 0)) (by (with_reducible repeat (first | refine blk_drewN ?_ _ | refine blk_drew ?_ | refine blk_alloc ?_ _)); exact BK169.out) hb); have n1_ := Aside0.mk (below_step (by repeat (first | (with_reducible first | exact HB.out | apply below_alloc | apply pw_below_drewN | apply below_drew1 | refine below_set ?_ GE169.out) | exact HB.out)) hb); clear BK169; clear HB; have BK169 := n0_; have HB := n1_; clear n0_ n1_; (try clear hb); (try clear hb2); (try clear hk); (try clear hi)))
  go_ret
  exact ⟨by first | rfl | (simp [errW_none, errW_some] <;> rfl) | (simp [*, errW_none, errW_some] <;> rfl), by repeat (first | (with_reducible first | exact HB.out | apply below_alloc | apply pw_below_drewN | apply below_drew1 | refine below_set ?_ GE169.out) | exact HB.out)⟩
end Go.Proofs.Ytmnamkcjldaoeaa.PAll
namespace Go.Proofs.Ytmnamkcjldaoeaa.PAll
open Go.RowKit Go.Proofs.YtmnamkcjldaoeaaW.PrintWords Go.Proofs.YtmnamkcjldaoeaaW.PrintLast Go.Proofs.YtmnamkcjldaoeaaW.PrintMore
set_option linter.unusedVariables false
set_option linter.unusedSimpArgs false
def toG (x : S70) : S85 := ⟨x.f0, x.f1, x.f2, x.f3, x.f4⟩
theorem In_eq (a b c : Int) : kingpinref08_In.f a b c = some (decide (b ≤ a) && decide (a ≤ c)) := by
 unfold kingpinref08_In.f
 by_cases h : b ≤ a <;> simp [h]
theorem gameB_iff (n : Int) (g : S85) : gameB n g = true ↔ (0 ≤ g.f2 ∧ g.f2 ≤ 3000) ∧ (0 ≤ g.f3 ∧ g.f3 ≤ 3000) ∧ (0 ≤ g.f0 ∧ g.f0 < n) ∧ (0 ≤ g.f1 ∧ g.f1 < n) ∧ g.f0 ≠ g.f1 ∧ (g.f4 = true → g.f2 = 0 ∧ g.f3 = 0) := by
 unfold gameB
 cases h : g.f4 <;> simp [and_assoc]
def kingpinref08_Fault.f (a0_0 : Int) (l0_1 : List (S70)) : Option Int := some (checkF a0_0 (l0_1.map toG))
def blk24 (W : World) (b : Nat) (a : Int) (v : Value) : Prop := W.heap[b]? = some (.cells #[.int .i64 a, v] 24 (0, 0))
theorem fault_way (a x0 x1 x2 x3 : Int) (x4 : Bool) (h2 : 2 ≤ a) (h6 : a ≤ 6) : ∃ b0 b1 b2 b3 e q, Hid (kingpinref08_In.f x0 0 (a - 1) = some b0) ∧ Hid (kingpinref08_In.f x1 0 (a - 1) = some b1) ∧ Hid (kingpinref08_In.f x2 0 3000 = some b2) ∧ Hid (kingpinref08_In.f x3 0 3000 = some b3) ∧ (x0 == x1) = e ∧ decide (wrap64 (x2 + x3) > 0) = q ∧
  ((b0 = false ∧ gameB a ⟨x0, x1, x2, x3, x4⟩ = false) ∨ (b0 = true ∧ b1 = false ∧ gameB a ⟨x0, x1, x2, x3, x4⟩ = false) ∨ (b0 = true ∧ b1 = true ∧ e = true ∧ gameB a ⟨x0, x1, x2, x3, x4⟩ = false) ∨ (b0 = true ∧ b1 = true ∧ e = false ∧ b2 = false ∧ gameB a ⟨x0, x1, x2, x3, x4⟩ = false) ∨ (b0 = true ∧ b1 = true ∧ e = false ∧ b2 = true ∧ b3 = false ∧ gameB a ⟨x0, x1, x2, x3, x4⟩ = false) ∨
   (b0 = true ∧ b1 = true ∧ e = false ∧ b2 = true ∧ b3 = true ∧ x4 = true ∧ q = true ∧ gameB a ⟨x0, x1, x2, x3, x4⟩ = false) ∨
   (b0 = true ∧ b1 = true ∧ e = false ∧ b2 = true ∧ b3 = true ∧ x4 = false ∧ gameB a ⟨x0, x1, x2, x3, x4⟩ = true) ∨ (b0 = true ∧ b1 = true ∧ e = false ∧ b2 = true ∧ b3 = true ∧ x4 = true ∧ q = false ∧ gameB a ⟨x0, x1, x2, x3, x4⟩ = true)) := by
 refine ⟨_, _, _, _, _, _, In_eq _ _ _, In_eq _ _ _, In_eq _ _ _, In_eq _ _ _, rfl, rfl, ?_⟩
 have hg : ∀ b, gameB a ⟨x0, x1, x2, x3, x4⟩ = b ↔ (decide ((0 ≤ x2 ∧ x2 ≤ 3000) ∧ (0 ≤ x3 ∧ x3 ≤ 3000) ∧ (0 ≤ x0 ∧ x0 < a) ∧ (0 ≤ x1 ∧ x1 < a) ∧ x0 ≠ x1 ∧ (x4 = true → x2 = 0 ∧ x3 = 0)) = b) := by
  intro b
  rw [show gameB a ⟨x0, x1, x2, x3, x4⟩ = decide ((0 ≤ x2 ∧ x2 ≤ 3000) ∧ (0 ≤ x3 ∧ x3 ≤ 3000) ∧ (0 ≤ x0 ∧ x0 < a) ∧ (0 ≤ x1 ∧ x1 < a) ∧ x0 ≠ x1 ∧ (x4 = true → x2 = 0 ∧ x3 = 0)) from by
   rw [Bool.eq_iff_iff, gameB_iff, decide_eq_true_eq]]
 by_cases c0 : 0 ≤ x0 ∧ x0 ≤ a - 1
 ·
  by_cases c1 : 0 ≤ x1 ∧ x1 ≤ a - 1
  ·
   by_cases c2 : x0 = x1
   ·
    refine .inr (.inr (.inl ⟨by simpa using c0, by simpa using c1, by simpa using c2, (hg _).2 (decide_eq_false fun h => h.2.2.2.2.1 c2)⟩))
   ·
    by_cases c3 : 0 ≤ x2 ∧ x2 ≤ 3000
    ·
     by_cases c4 : 0 ≤ x3 ∧ x3 ≤ 3000
     ·
      have hw : wrap64 (x2 + x3) = x2 + x3 := IntWalk.wrap64_in _ ⟨by omega, by omega⟩
      cases x4 with
      | false => exact .inr (.inr (.inr (.inr (.inr (.inr (.inl ⟨by simpa using c0, by simpa using c1, by simpa using c2, by simpa using c3, by simpa using c4, rfl, (hg _).2 (decide_eq_true ⟨c3, c4, ⟨c0.1, by omega⟩, ⟨c1.1, by omega⟩, c2, fun h => by cases h⟩)⟩))))))
      | true =>
       by_cases c6 : x2 + x3 > 0
       ·
        exact .inr (.inr (.inr (.inr (.inr (.inl ⟨by simpa using c0, by simpa using c1, by simpa using c2, by simpa using c3, by simpa using c4, rfl, by rw [hw]; exact decide_eq_true c6, (hg _).2 (decide_eq_false fun h => by have := h.2.2.2.2.2 rfl; omega)⟩)))))
       ·
        exact .inr (.inr (.inr (.inr (.inr (.inr (.inr ⟨by simpa using c0, by simpa using c1, by simpa using c2, by simpa using c3, by simpa using c4, rfl, by rw [hw]; exact decide_eq_false c6, (hg _).2 (decide_eq_true ⟨c3, c4, ⟨c0.1, by omega⟩, ⟨c1.1, by omega⟩, c2, fun _ => by omega⟩)⟩))))))
     ·
      exact .inr (.inr (.inr (.inr (.inl ⟨by simpa using c0, by simpa using c1, by simpa using c2, by simpa using c3, by simpa using c4, (hg _).2 (decide_eq_false fun h => c4 h.2.1)⟩))))
    ·
     exact .inr (.inr (.inr (.inl ⟨by simpa using c0, by simpa using c1, by simpa using c2, by simpa using c3, (hg _).2 (decide_eq_false fun h => c3 h.1)⟩)))
  ·
   exact .inr (.inl ⟨by simpa using c0, by simpa using c1, (hg _).2 (decide_eq_false fun h => c1 ⟨h.2.2.2.1.1, by omega⟩)⟩)
 ·
  exact .inl ⟨by simpa using c0, (hg _).2 (decide_eq_false fun h => c0 ⟨h.2.2.1.1, by omega⟩)⟩
theorem drop70 (l : List S70) (i : Nat) (h : i < l.length) : l.drop i = rd_T70 l (i : Int) :: l.drop (i + 1) := by
 rw [List.drop_eq_getElem_cons h]
 congr 1
 unfold rd_T70
 rw [Int.toNat_natCast, List.getD_eq_getElem?_getD, List.getElem?_eq_getElem h, Option.getD_some]
set_option maxHeartbeats 4000000 in
theorem kingpinref08_Fault.calls (a0_0 : Int) (A0_1 : Option Addr) (c0_1 : Nat) (l0_1 : List (S70)) (r : Int) (w : World) (hr0_1 : Kd.C k70 w A0_1 l0_1.length l0_1) (hc0_1 : l0_1.length ≤ c0_1) (h : kingpinref08_Fault.f a0_0 l0_1 = some r) :
  Calls Try.prog 57 #[.agg #[.int .i64 a0_0, .slice A0_1 l0_1.length c0_1]] w fun e w' => e = .returned (.int .i64 r) ∧ Below w.heap.size w w' := by
 have HE := Lib.hid (Option.some.inj h)
 have hm : l0_1.length ≤ 9223372036854775807 := hr0_1.2.1
 have HR := Aside0.mk hr0_1
 clear h hr0_1 hc0_1
 by_cases h20 : 20 < l0_1.length
 ·
  have hb : decide ((l0_1.length : Int) > 20) = true := decide_eq_true (by omega)
  have hr : r = 3 := by
   rw [← HE.out]
   unfold checkF
   rw [List.length_map, if_pos h20]
  clear h20
  have HRR := Lib.hid hr
  clear hr
  have HW : Aside0 (Below w.heap.size w (w.alloc (.cells #[.int .i64 a0_0, .slice A0_1 l0_1.length c0_1] 24))) := ⟨below_alloc (Below.refl _ _) _⟩
  go_enter Try.func57, Try.ntmps57
  go_wp2
  go_ret
  exact ⟨by rw [HRR.out]; rfl, by first | exact HW.out | exact pw_below_drewN HW.out _⟩
 ·
  have hb : decide ((l0_1.length : Int) > 20) = false := decide_eq_false (by omega)
  obtain ⟨b, hbt⟩ : ∃ b, teamsB a0_0 = b := ⟨_, rfl⟩
  have hin : kingpinref08_In.f a0_0 2 6 = some b := by rw [In_eq, ← hbt]; rfl
  have HIN := Lib.hid hin
  have HBT := Lib.hid hbt
  have H20 := Lib.hid h20
  clear hin hbt h20
  have HW : Aside0 (Below w.heap.size w (w.alloc (.cells #[.int .i64 a0_0, .slice A0_1 l0_1.length c0_1] 24))) := ⟨below_alloc (Below.refl _ _) _⟩
  have HBK : Aside0 (blk24 (w.alloc (.cells #[.int .i64 a0_0, .slice A0_1 l0_1.length c0_1] 24)) w.heap.size a0_0 (.slice A0_1 l0_1.length c0_1)) := ⟨blk_new _ _⟩
  cases b with
  | false =>
   have HRR : Hid (r = 1) := by
    show r = 1
    rw [← HE.out]
    unfold checkF
    rw [List.length_map, if_neg H20.out, HBT.out]
    rfl
   go_enter Try.func57, Try.ntmps57
   go_wp2_with (go_at_call 46; (with_reducible refine (kingpinref08_In.calls a0_0 2 6 _ _ HIN.out).mono ?_); rintro e w' ⟨rfl, ⟨nd, rfl⟩⟩)
   go_ret
   exact ⟨by rw [HRR.out]; rfl, by first | exact HW.out | exact pw_below_drewN HW.out _⟩
  | true =>
   have ht : 2 ≤ a0_0 ∧ a0_0 ≤ 6 := by have := HBT.out; simpa [teamsB] using this
   obtain ⟨h2, h6⟩ := ht
   have HRR : Hid (r = if ((l0_1.map toG).all (gameB a0_0)) = true then 0 else 1) := by
    show r = _
    rw [← HE.out]
    unfold checkF
    rw [List.length_map, if_neg H20.out, HBT.out, Bool.true_and]
   go_enter Try.func57, Try.ntmps57
   go_wp2_with (go_at_call 46; (with_reducible refine (kingpinref08_In.calls a0_0 2 6 _ _ HIN.out).mono ?_); rintro e w' ⟨rfl, ⟨nd, rfl⟩⟩)
   go_loopw [3] (fun v wr => ∃ k : Nat, k ≤ l0_1.length ∧ v = .int .i64 k ∧ Aside0 (r = if (((l0_1.drop k).map toG).all (gameB a0_0)) = true then 0 else 1) ∧ Aside0 (blk24 wr w.heap.size a0_0 (.slice A0_1 l0_1.length c0_1)) ∧ Aside0 (Below w.heap.size w wr)) (fun v _ => l0_1.length - (intOf v).toNat)
   case atStart => exact ⟨0, Nat.zero_le _, rfl, ⟨by rw [List.drop_zero]; exact HRR.out⟩, ⟨by first | exact HBK.out | exact blk_drewN HBK.out _⟩, ⟨by first | exact HW.out | exact pw_below_drewN HW.out _⟩⟩
   case round =>
    obtain ⟨k, hk, rfl, hX, hG, hB⟩ := hrel
    have g0 : wr.cell? ⟨w.heap.size, 0, none⟩ = some (.int .i64 a0_0) := (blk_cell hG.out 0).trans rfl
    have g1 : wr.cell? ⟨w.heap.size, 1, none⟩ = some (.slice A0_1 l0_1.length c0_1) := (blk_cell hG.out 1).trans rfl
    have gf0 : wr.frozen? ⟨w.heap.size, 0, none⟩ = false := blk_frozen hG.out 0
    have gf1 : wr.frozen? ⟨w.heap.size, 1, none⟩ = false := blk_frozen hG.out 1
    by_cases hlt : k < l0_1.length
    ·
     obtain ⟨ad, e2, q0, q1, q2, q3, q4⟩ := at_T70 (Kd.C_below HR.out hB.out) (k : Int) (by omega) (by omega)
     cases e2
     rw [Int.toNat_natCast] at q0 q1 q2 q3 q4
     have hd := drop70 l0_1 k hlt
     have hX2 := hX.out
     rw [hd, List.map_cons, List.all_cons] at hX2
     clear hd
     obtain ⟨⟨x0, x1, x2, x3, x4⟩, hx⟩ : ∃ x, rd_T70 l0_1 (k : Int) = x := ⟨_, rfl⟩
     rw [hx] at q0 q1 q2 q3 q4 hX2
     have HX2 := Lib.hid hX2
     clear hX2 hx
     obtain ⟨b0, b1, b2, b3, e, q, E0, E1, E2, E3, k1, k2, hway⟩ := fault_way a0_0 x0 x1 x2 x3 x4 h2 h6
     have HLT := Lib.hid hlt
     have ha1 : wrap64 (a0_0 - 1) = a0_0 - 1 := IntWalk.wrap64_in _ ⟨by omega, by omega⟩
     go_upto_region 9 with fail
     have hb2 : Below wr.heap.size wr (wr.alloc (.cells #[.int .i64 x0, .int .i64 x1, .int .i64 x2, .int .i64 x3, .bool x4] 70)) := below_alloc (Below.refl _ _) _
     have hb3 : (wr.alloc (.cells #[.int .i64 x0, .int .i64 x1, .int .i64 x2, .int .i64 x3, .bool x4] 70)).heap[wr.heap.size]? = some (.cells #[.int .i64 x0, .int .i64 x1, .int .i64 x2, .int .i64 x3, .bool x4] 70 (0, 0)) := blk_new _ _
     obtain ⟨W1, hW1⟩ : ∃ W, W = wr.alloc (.cells #[.int .i64 x0, .int .i64 x1, .int .i64 x2, .int .i64 x3, .bool x4] 70) := ⟨_, rfl⟩
     rw [← hW1] at hb2 hb3 ⊢
     clear hW1
     have HG1 : Aside0 (blk24 W1 w.heap.size a0_0 (.slice (some ad) l0_1.length c0_1)) := ⟨blk_below hG.out hb2⟩
     have HB1 : Aside0 (Below w.heap.size w W1) := ⟨below_step hB.out hb2⟩
     clear g0 g1 gf0 gf1 q0 q1 q2 q3 q4 hb2
     have g0 : W1.cell? ⟨w.heap.size, 0, none⟩ = some (.int .i64 a0_0) := (blk_cell HG1.out 0).trans rfl
     have m0 : W1.cell? ⟨wr.heap.size, 0, none⟩ = some (.int .i64 x0) := (blk_cell hb3 0).trans rfl
     have m1 : W1.cell? ⟨wr.heap.size, 1, none⟩ = some (.int .i64 x1) := (blk_cell hb3 1).trans rfl
     have m2 : W1.cell? ⟨wr.heap.size, 2, none⟩ = some (.int .i64 x2) := (blk_cell hb3 2).trans rfl
     have m3 : W1.cell? ⟨wr.heap.size, 3, none⟩ = some (.int .i64 x3) := (blk_cell hb3 3).trans rfl
     have m4 : W1.cell? ⟨wr.heap.size, 4, none⟩ = some (.bool x4) := (blk_cell hb3 4).trans rfl
     clear hb3
     subst e
     rcases hway with ⟨rfl, hg⟩ | ⟨rfl, rfl, hg⟩ | ⟨rfl, rfl, k1, hg⟩ | ⟨rfl, rfl, k1, rfl, hg⟩ | ⟨rfl, rfl, k1, rfl, rfl, hg⟩ | ⟨rfl, rfl, k1, rfl, rfl, rfl, rfl, hg⟩ | ⟨rfl, rfl, k1, rfl, rfl, rfl, hg⟩ | ⟨rfl, rfl, k1, rfl, rfl, rfl, rfl, hg⟩
     rotate_right 2
     iterate 2
      have HN : Aside0 (r = if (((l0_1.drop (k + 1)).map toG).all (gameB a0_0)) = true then 0 else 1) := ⟨by
       have := HX2.out
       rw [show gameB a0_0 (toG ⟨x0, x1, x2, x3, _⟩) = true from hg, Bool.true_and] at this
       exact this⟩
      clear hg
      go_wp2_with (first | (go_at_call 46; (with_reducible refine (kingpinref08_In.calls x0 0 (a0_0 - 1) _ _ E0.out).mono ?_); rintro e w' ⟨rfl, ⟨nd, rfl⟩⟩) | (go_at_call 46; (with_reducible refine (kingpinref08_In.calls x1 0 (a0_0 - 1) _ _ E1.out).mono ?_); rintro e w' ⟨rfl, ⟨nd, rfl⟩⟩) | (go_at_call 46; (with_reducible refine (kingpinref08_In.calls x2 0 3000 _ _ E2.out).mono ?_); rintro e w' ⟨rfl, ⟨nd, rfl⟩⟩) | (go_at_call 46; (with_reducible refine (kingpinref08_In.calls x3 0 3000 _ _ E3.out).mono ?_); rintro e w' ⟨rfl, ⟨nd, rfl⟩⟩))
      go_roundw
      case rel => exact ⟨k + 1, by have := HLT.out; omega, rfl, HN, ⟨by first | exact HG1.out | exact blk_drewN HG1.out _⟩, ⟨by first | exact HB1.out | exact pw_below_drewN HB1.out _⟩⟩
      case measure => have := HLT.out; simp [intOf]; omega
     all_goals
      have HN : Hid (r = 1) := by
       have := HX2.out
       rw [show gameB a0_0 (toG ⟨x0, x1, x2, x3, _⟩) = false from hg, Bool.false_and, if_neg (by decide)] at this
       exact this
      clear hg
      go_wp2_with (first | (go_at_call 46; (with_reducible refine (kingpinref08_In.calls x0 0 (a0_0 - 1) _ _ E0.out).mono ?_); rintro e w' ⟨rfl, ⟨nd, rfl⟩⟩) | (go_at_call 46; (with_reducible refine (kingpinref08_In.calls x1 0 (a0_0 - 1) _ _ E1.out).mono ?_); rintro e w' ⟨rfl, ⟨nd, rfl⟩⟩) | (go_at_call 46; (with_reducible refine (kingpinref08_In.calls x2 0 3000 _ _ E2.out).mono ?_); rintro e w' ⟨rfl, ⟨nd, rfl⟩⟩) | (go_at_call 46; (with_reducible refine (kingpinref08_In.calls x3 0 3000 _ _ E3.out).mono ?_); rintro e w' ⟨rfl, ⟨nd, rfl⟩⟩))
      go_ret
      exact ⟨by rw [HN.out]; rfl, by first | exact HB1.out | exact pw_below_drewN HB1.out _⟩
    ·
     obtain rfl : k = l0_1.length := by omega
     have HR0 : Hid (r = 0) := by
      have := hX.out
      rw [List.drop_length] at this
      exact this
     go_wp2
     go_ret
     exact ⟨by rw [HR0.out]; rfl, by first | exact hB.out | exact pw_below_drewN hB.out _⟩
end Go.Proofs.Ytmnamkcjldaoeaa.PAll
namespace Go.Proofs.Ytmnamkcjldaoeaa.PAll
open Go.RowKit Go.Proofs.YtmnamkcjldaoeaaW.PrintWords Go.Proofs.YtmnamkcjldaoeaaW.PrintLast Go.Proofs.YtmnamkcjldaoeaaW.PrintMore
attribute [local go_sem] max2_int min2_int max_two min_two max_three min_three max_four min_four   -- for this text's walks alone
set_option linter.unusedVariables false
set_option linter.unusedSimpArgs false
def kingpinlaw08_ready.f (a0_0 : Int) (l0_1 : List (S70)) : Option (Bool) := (kingpinlaw08_Thin.f a0_0 l0_1).bind fun t349 => (if t349 = true then ((kingpinref08_Fault.f a0_0 l0_1).bind fun t350 => (some (t350 == 0))) else (some false))
set_option maxHeartbeats 8000000 in
set_option maxRecDepth 100000 in
theorem kingpinlaw08_ready.calls (a0_0 : Int) (A0_1 : Option Addr) (c0_1 : Nat) (l0_1 : List (S70)) (r : Bool) (w : World) (hr0_1 : Kd.C k70 w A0_1 l0_1.length l0_1) (hc0_1 : l0_1.length ≤ c0_1) (h : kingpinlaw08_ready.f a0_0 l0_1 = some r) :
  Calls Try.prog 34 #[.agg #[.int .i64 a0_0, .slice A0_1 l0_1.length c0_1]] w fun e w' => e = .returned (.bool r) ∧ Below w.heap.size w w' := by
 have hu24 := Try.underlying24
 have HR0_1 := Aside0.mk hr0_1
 have HC0_1 := Aside0.mk hc0_1
 clear hr0_1 hc0_1
 have HB := Aside0.mk (Below.refl w.heap.size w)
 have H : ((kingpinlaw08_Thin.f a0_0 l0_1).bind fun t349 => (if t349 = true then ((kingpinref08_Fault.f a0_0 l0_1).bind fun t350 => (some (t350 == 0))) else (some false))) = some r := h
 clear h
 replace H := Option.bind_eq_some_iff.mp H
 obtain ⟨t349, A20, H⟩ := H
 replace H : (if t349 = true then ((kingpinref08_Fault.f a0_0 l0_1).bind fun t350 => (some (t350 == 0))) else (some false)) = some r := H
 have A2 := Aside0.mk A20
 clear A20
 by_cases c3 : t349 = true
 ·
  subst c3
  have H1 : ((kingpinref08_Fault.f a0_0 l0_1).bind fun t350 => (some (t350 == 0))) = some r := by rw [if_pos rfl] at H; exact H
  clear H
  have H := H1
  clear H1
  replace H := Option.bind_eq_some_iff.mp H
  obtain ⟨t350, A40, H⟩ := H
  replace H : (some (t350 == 0)) = some r := H
  have A4 := Aside0.mk A40
  clear A40
  obtain rfl := Option.some.inj H
  go_enter Try.func34, Try.ntmps34
  go_wp2_with (first | ((with_reducible refine gate_dst (N := 1) rfl ?_); refine box_event ?hg (N := 1) ?hd (cs := #[.int .i64 a0_0, .slice A0_1 l0_1.length c0_1]) (t := 24) ?hr ?_; (case hd => rfl); (case hg => rfl); (case hr => first | (go_simp; done) | (go_simp; rfl)); intro gb348 hg w5 hbox hb; have n0_ := Aside0.mk (below_step (by repeat (first | (with_reducible first | exact HB.out | apply below_alloc | apply pw_below_drewN | apply below_drew1) | exact HB.out)) hb); have n1_ := Aside0.mk (hbox); have n2_ := Aside0.mk ((by rw [hg]; exact (below_size (by repeat (first | (with_reducible first | exact HB.out | apply below_alloc | apply pw_below_drewN | apply below_drew1) | exact HB.out))) : w.heap.size ≤ gb348)); have n3_ := Aside0.mk ((by rw [hg]; exact (below_size (by repeat (first | (with_reducible first | exact HB.out | apply below_alloc | apply pw_below_drewN | apply below_drew1) | exact HB.out))) : w.heap.size ≤ gb348)); clear HB; have HB := n0_; have BK348 := n1_; have GW348 := n2_; have GE348 := n3_; clear n0_ n1_ n2_ n3_; clear hb hbox hg; have hcz6_0 : w5.cell? ⟨gb348, 0, none⟩ = some (.int .i64 a0_0) := (blk_cell BK348.out 0).trans rfl; have hcz6_1 : w5.cell? ⟨gb348, 1, none⟩ = some (.slice A0_1 l0_1.length c0_1) := (blk_cell BK348.out 1).trans rfl; have hfz6_0 := blk_frozen BK348.out 0; have hfz6_1 := blk_frozen BK348.out 1) | ((with_reducible refine gate_callee (f := 15) rfl ?_); refine goesL_ (some 4) rfl rfl Try.func15 (by kernel_rfl) rfl #[.agg #[.int .i64 a0_0, .slice A0_1 l0_1.length c0_1]] rfl (by (try simp only [List.map_toArray, List.map_cons, List.map_nil]); first | done | rfl | (simp only [List.length_drop, List.length_take]; rfl)) ?_; (with_reducible refine (kingpinlaw08_Thin.calls a0_0 _ _ l0_1 true _ ?side1 ?side2 A2.out).mono ?_); (case side1 => repeat (first | exact (Kd.C_below HR0_1.out HB.out) | (with_reducible refine Kd.C_alloc ?_ _) | (with_reducible refine Kd.C_drewN ?_ _) | (with_reducible refine Kd.C_drew ?_))); (case side2 => exact HC0_1.out); rintro e w7 ⟨rfl, hb⟩; refine ⟨_, rfl, ?_⟩; have n0_ := Aside0.mk (blk_below (g := gb348) (o := .cells #[.int .i64 a0_0, .slice A0_1 l0_1.length c0_1] 24 (0, 0)) (by (with_reducible repeat (first | refine blk_drewN ?_ _ | refine blk_drew ?_ | refine blk_alloc ?_ _)); exact BK348.out) hb); have n1_ := Aside0.mk (below_step (by repeat (first | (with_reducible first | exact HB.out | apply below_alloc | apply pw_below_drewN | apply below_drew1 | refine below_set ?_ GE348.out) | exact HB.out)) hb); clear BK348; clear HB; have BK348 := n0_; have HB := n1_; clear n0_ n1_; (try clear hb); (try clear hb2); (try clear hk); (try clear hi); have hcz8_0 : w7.cell? ⟨gb348, 0, none⟩ = some (.int .i64 a0_0) := (blk_cell BK348.out 0).trans rfl; have hcz8_1 : w7.cell? ⟨gb348, 1, none⟩ = some (.slice A0_1 l0_1.length c0_1) := (blk_cell BK348.out 1).trans rfl; have hfz8_0 := blk_frozen BK348.out 0; have hfz8_1 := blk_frozen BK348.out 1) | (go_at_call 57; (with_reducible refine (kingpinref08_Fault.calls a0_0 _ _ l0_1 t350 _ ?side1 ?side2 A4.out).mono ?_); (case side1 => repeat (first | exact (Kd.C_below HR0_1.out HB.out) | (with_reducible refine Kd.C_alloc ?_ _) | (with_reducible refine Kd.C_drewN ?_ _) | (with_reducible refine Kd.C_drew ?_))); (case side2 => exact HC0_1.out); rintro e w9 ⟨rfl, hb⟩; have n0_ := Aside0.mk (blk_below (g := gb348) (o := .cells #[.int .i64 a0_0, .slice A0_1 l0_1.length c0_1] 24 (0, 0)) (by (with_reducible repeat (first | refine blk_drewN ?_ _ | refine blk_drew ?_ | refine blk_alloc ?_ _)); exact BK348.out) hb); have n1_ := Aside0.mk (below_step (by repeat (first | (with_reducible first | exact HB.out | apply below_alloc | apply pw_below_drewN | apply below_drew1 | refine below_set ?_ GE348.out) | exact HB.out)) hb); clear BK348; clear HB; have BK348 := n0_; have HB := n1_; clear n0_ n1_; (try clear hb); (try clear hb2); (try clear hk); (try clear hi)))
  go_ret
  exact ⟨by first | rfl | (simp [errW_none, errW_some] <;> rfl) | (simp [*, errW_none, errW_some] <;> rfl), by repeat (first | (with_reducible first | exact HB.out | apply below_alloc | apply pw_below_drewN | apply below_drew1 | refine below_set ?_ GE348.out) | exact HB.out)⟩
 ·
  replace c3 := Bool.eq_false_iff.mpr c3
  subst c3
  have H1 : (some false) = some r := by rw [if_neg (show ¬ (false = true) by decide)] at H; exact H
  clear H
  have H := H1
  clear H1
  obtain rfl := Option.some.inj H
  go_enter Try.func34, Try.ntmps34
  go_wp2_with (first | ((with_reducible refine gate_dst (N := 1) rfl ?_); refine box_event ?hg (N := 1) ?hd (cs := #[.int .i64 a0_0, .slice A0_1 l0_1.length c0_1]) (t := 24) ?hr ?_; (case hd => rfl); (case hg => rfl); (case hr => first | (go_simp; done) | (go_simp; rfl)); intro gb348 hg w10 hbox hb; have n0_ := Aside0.mk (below_step (by repeat (first | (with_reducible first | exact HB.out | apply below_alloc | apply pw_below_drewN | apply below_drew1) | exact HB.out)) hb); have n1_ := Aside0.mk (hbox); have n2_ := Aside0.mk ((by rw [hg]; exact (below_size (by repeat (first | (with_reducible first | exact HB.out | apply below_alloc | apply pw_below_drewN | apply below_drew1) | exact HB.out))) : w.heap.size ≤ gb348)); have n3_ := Aside0.mk ((by rw [hg]; exact (below_size (by repeat (first | (with_reducible first | exact HB.out | apply below_alloc | apply pw_below_drewN | apply below_drew1) | exact HB.out))) : w.heap.size ≤ gb348)); clear HB; have HB := n0_; have BK348 := n1_; have GW348 := n2_; have GE348 := n3_; clear n0_ n1_ n2_ n3_; clear hb hbox hg; have hcz11_0 : w10.cell? ⟨gb348, 0, none⟩ = some (.int .i64 a0_0) := (blk_cell BK348.out 0).trans rfl; have hcz11_1 : w10.cell? ⟨gb348, 1, none⟩ = some (.slice A0_1 l0_1.length c0_1) := (blk_cell BK348.out 1).trans rfl; have hfz11_0 := blk_frozen BK348.out 0; have hfz11_1 := blk_frozen BK348.out 1) | ((with_reducible refine gate_callee (f := 15) rfl ?_); refine goesL_ (some 4) rfl rfl Try.func15 (by kernel_rfl) rfl #[.agg #[.int .i64 a0_0, .slice A0_1 l0_1.length c0_1]] rfl (by (try simp only [List.map_toArray, List.map_cons, List.map_nil]); first | done | rfl | (simp only [List.length_drop, List.length_take]; rfl)) ?_; (with_reducible refine (kingpinlaw08_Thin.calls a0_0 _ _ l0_1 false _ ?side1 ?side2 A2.out).mono ?_); (case side1 => repeat (first | exact (Kd.C_below HR0_1.out HB.out) | (with_reducible refine Kd.C_alloc ?_ _) | (with_reducible refine Kd.C_drewN ?_ _) | (with_reducible refine Kd.C_drew ?_))); (case side2 => exact HC0_1.out); rintro e w12 ⟨rfl, hb⟩; refine ⟨_, rfl, ?_⟩; have n0_ := Aside0.mk (blk_below (g := gb348) (o := .cells #[.int .i64 a0_0, .slice A0_1 l0_1.length c0_1] 24 (0, 0)) (by (with_reducible repeat (first | refine blk_drewN ?_ _ | refine blk_drew ?_ | refine blk_alloc ?_ _)); exact BK348.out) hb); have n1_ := Aside0.mk (below_step (by repeat (first | (with_reducible first | exact HB.out | apply below_alloc | apply pw_below_drewN | apply below_drew1 | refine below_set ?_ GE348.out) | exact HB.out)) hb); clear BK348; clear HB; have BK348 := n0_; have HB := n1_; clear n0_ n1_; (try clear hb); (try clear hb2); (try clear hk); (try clear hi)))
  go_ret
  exact ⟨by first | rfl | (simp [errW_none, errW_some] <;> rfl) | (simp [*, errW_none, errW_some] <;> rfl), by repeat (first | (with_reducible first | exact HB.out | apply below_alloc | apply pw_below_drewN | apply below_drew1 | refine below_set ?_ GE348.out) | exact HB.out)⟩
end Go.Proofs.Ytmnamkcjldaoeaa.PAll
