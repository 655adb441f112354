/- Parts of the proof of leagueNames_holds, in order: HAll, HCheck, F69, HFault -/
import Derived.Test.YtmnamkcjldaoeaaKNames3
import Derived.Test.YtmnamkcjldaoeaaKNames4
import Derived.Outline
import Derived.Lib.Hide
import Derived.Laws.EntriesVeiled
namespace Go.Proofs.Ytmnamkcjldaoeaa.PAll
open Go.RowKit Go.Proofs.YtmnamkcjldaoeaaW.PrintWords Go.Proofs.YtmnamkcjldaoeaaW.PrintLast Go.Proofs.YtmnamkcjldaoeaaW.PrintMore
set_option linter.unusedVariables false
set_option linter.unusedSimpArgs false
def idxOf {α : Type} (p : α → Bool) (l : List α) : Int := match l.findIdx? p with | some i => (i : Int) | none => -1
theorem idxOf_hit {α : Type} (p : α → Bool) (d : α) (l : List α) (k : Nat) (hk : k < l.length) (hno : ∀ j, j < k → p (l.getD j d) = false) (hp : p (l.getD k d) = true) : idxOf p l = (k : Int) := by
 have h : l.findIdx? p = some k := by
  rw [List.findIdx?_eq_some_iff_getElem]
  refine ⟨hk, ?_, fun j hj => ?_⟩
  ·
   rw [List.getD_eq_getElem?_getD, List.getElem?_eq_getElem hk] at hp; exact hp
  ·
   have := hno j hj
   rw [List.getD_eq_getElem?_getD, List.getElem?_eq_getElem (by omega)] at this
   simpa using this
 unfold idxOf
 rw [h]
theorem idxOf_miss {α : Type} (p : α → Bool) (d : α) (l : List α) (hno : ∀ j, j < l.length → p (l.getD j d) = false) : idxOf p l = -1 := by
 have h : l.findIdx? p = none := by
  rw [List.findIdx?_eq_none_iff]
  intro x hx
  obtain ⟨j, hj, rfl⟩ := List.getElem_of_mem hx
  have := hno j hj
  rw [List.getD_eq_getElem?_getD, List.getElem?_eq_getElem hj] at this
  exact this
 unfold idxOf
 rw [h]
theorem idxOf_any {α : Type} (p : α → Bool) (l : List α) : decide (0 ≤ idxOf p l) = l.any p := by
 unfold idxOf
 cases h : l.findIdx? p with
 | none =>
  rw [List.findIdx?_eq_none_iff] at h
  have : l.any p = false := by rw [List.any_eq_false]; intro x hx; simp [h x hx]
  rw [this]; rfl
 | some i =>
  rw [List.findIdx?_eq_some_iff_getElem] at h
  obtain ⟨hi, hp, _⟩ := h
  have : l.any p = true := List.any_eq_true.2 ⟨_, List.getElem_mem hi, hp⟩
  rw [this]
  simp
theorem not_any_not {α : Type} (p : α → Bool) (l : List α) : (!(l.any fun x => !p x)) = l.all p := by
 induction l with
 | nil => rfl
 | cons x l ih => simp [← ih, Bool.not_or]
theorem indexG83 (A : Option Addr) (c : Nat) (l : List S85) (b : Nat) (p : S85 → Bool) (w : World) (hr : Kd.C k85 w A l.length l)
  (hf : ∀ (x : S85) (W : World), Below w.heap.size w W → Calls Try.prog 83 #[.agg #[.int .i64 x.f0, .int .i64 x.f1, .int .i64 x.f2, .int .i64 x.f3, .bool x.f4], .pointer (some ⟨b, 0, none⟩)] W fun e W' => e = .returned (.bool (p x)) ∧ Below W.heap.size W W') :
  Calls Try.prog 107 #[.slice A l.length c, .func (.func 83) #[] #[.pointer (some ⟨b, 0, none⟩)]] w fun e w' => e = .returned (.int .i64 (idxOf p l)) ∧ Below w.heap.size w w' := by
 have HF := Lib.hid hf
 clear hf
 have HR := Aside0.mk hr
 clear hr
 go_enter Try.func107, Try.ntmps107
 go_wp2
 go_loopw [8] (fun v wr => ∃ k : Nat, k ≤ l.length ∧ v = .int .i64 k ∧ Aside0 (∀ j, j < k → p (l.getD j z85) = false) ∧ Below w.heap.size w wr) (fun v _ => l.length - (intOf v).toNat)
 case atStart => exact ⟨0, Nat.zero_le _, rfl, ⟨fun j hj => absurd hj (Nat.not_lt_zero _)⟩, Below.refl _ _⟩
 case round =>
  obtain ⟨k, hk, rfl, hno, hb⟩ := hrel
  have hm : l.length ≤ 9223372036854775807 := HR.out.2.1
  by_cases hlt : k < l.length
  ·
   obtain ⟨ad, rfl, h0, h1, h2, h3, h4⟩ := at_T85 (Kd.C_below HR.out hb) (k : Int) (by omega) (by omega)
   rw [Int.toNat_natCast] at h0 h1 h2 h3 h4
   cases hp : p (rd_T85 l ↑k)
   ·
    go_wp2_with (go_at_call 83; (with_reducible refine (HF.out (rd_T85 l ↑k) _ hb).mono ?_); rintro e w1 ⟨rfl, hb1⟩)
    go_roundw
    case rel => exact ⟨k + 1, by omega, by go_num, ⟨fun j hj => by
     rcases Nat.lt_succ_iff_lt_or_eq.1 hj with h | rfl
     ·
      exact hno.out j h
     ·
      exact hp⟩, below_then hb (below_size hb) hb1⟩
    case measure => simp [intOf]; omega
   ·
    have HE := Lib.hid (idxOf_hit p z85 l k hlt hno.out hp)
    go_wp2_with (go_at_call 83; (with_reducible refine (HF.out (rd_T85 l ↑k) _ hb).mono ?_); rintro e w1 ⟨rfl, hb1⟩)
    go_ret
    exact ⟨by rw [HE.out]; rfl, below_then hb (below_size hb) hb1⟩
  ·
   have HE := Lib.hid (idxOf_miss p z85 l (fun j hj => hno.out j (by omega)))
   go_wp2
   go_ret
   exact ⟨by rw [HE.out]; rfl, hb⟩
theorem indexG94 (A : Option Addr) (c : Nat) (l : List S85) (p : S85 → Bool) (w : World) (hr : Kd.C k85 w A l.length l)
  (hf : ∀ (x : S85) (W : World), Below w.heap.size w W → Calls Try.prog 94 #[.agg #[.int .i64 x.f0, .int .i64 x.f1, .int .i64 x.f2, .int .i64 x.f3, .bool x.f4]] W fun e W' => e = .returned (.bool (p x)) ∧ Below W.heap.size W W') :
  Calls Try.prog 107 #[.slice A l.length c, .func (.func 94) #[] #[]] w fun e w' => e = .returned (.int .i64 (idxOf p l)) ∧ Below w.heap.size w w' := by
 have HF := Lib.hid hf
 clear hf
 have HR := Aside0.mk hr
 clear hr
 go_enter Try.func107, Try.ntmps107
 go_wp2
 go_loopw [8] (fun v wr => ∃ k : Nat, k ≤ l.length ∧ v = .int .i64 k ∧ Aside0 (∀ j, j < k → p (l.getD j z85) = false) ∧ Below w.heap.size w wr) (fun v _ => l.length - (intOf v).toNat)
 case atStart => exact ⟨0, Nat.zero_le _, rfl, ⟨fun j hj => absurd hj (Nat.not_lt_zero _)⟩, Below.refl _ _⟩
 case round =>
  obtain ⟨k, hk, rfl, hno, hb⟩ := hrel
  have hm : l.length ≤ 9223372036854775807 := HR.out.2.1
  by_cases hlt : k < l.length
  ·
   obtain ⟨ad, rfl, h0, h1, h2, h3, h4⟩ := at_T85 (Kd.C_below HR.out hb) (k : Int) (by omega) (by omega)
   rw [Int.toNat_natCast] at h0 h1 h2 h3 h4
   cases hp : p (rd_T85 l ↑k)
   ·
    go_wp2_with (go_at_call 94; (with_reducible refine (HF.out (rd_T85 l ↑k) _ hb).mono ?_); rintro e w1 ⟨rfl, hb1⟩)
    go_roundw
    case rel => exact ⟨k + 1, by omega, by go_num, ⟨fun j hj => by
     rcases Nat.lt_succ_iff_lt_or_eq.1 hj with h | rfl
     ·
      exact hno.out j h
     ·
      exact hp⟩, below_then hb (below_size hb) hb1⟩
    case measure => simp [intOf]; omega
   ·
    have HE := Lib.hid (idxOf_hit p z85 l k hlt hno.out hp)
    go_wp2_with (go_at_call 94; (with_reducible refine (HF.out (rd_T85 l ↑k) _ hb).mono ?_); rintro e w1 ⟨rfl, hb1⟩)
    go_ret
    exact ⟨by rw [HE.out]; rfl, below_then hb (below_size hb) hb1⟩
  ·
   have HE := Lib.hid (idxOf_miss p z85 l (fun j hj => hno.out j (by omega)))
   go_wp2
   go_ret
   exact ⟨by rw [HE.out]; rfl, hb⟩
theorem containsG (A : Option Addr) (c : Nat) (l : List S85) (b : Nat) (p : S85 → Bool) (w : World) (hr : Kd.C k85 w A l.length l)
  (hf : ∀ (x : S85) (W : World), Below w.heap.size w W → Calls Try.prog 83 #[.agg #[.int .i64 x.f0, .int .i64 x.f1, .int .i64 x.f2, .int .i64 x.f3, .bool x.f4], .pointer (some ⟨b, 0, none⟩)] W fun e W' => e = .returned (.bool (p x)) ∧ Below W.heap.size W W') :
  Calls Try.prog 82 #[.slice A l.length c, .func (.func 83) #[] #[.pointer (some ⟨b, 0, none⟩)]] w fun e w' => e = .returned (.bool (l.any p)) ∧ Below w.heap.size w w' := by
 have HF := Lib.hid (indexG83 A c l b p w hr hf)
 clear hf hr
 have HE := Lib.hid (idxOf_any p l)
 go_enter Try.func82, Try.ntmps82
 go_wp2_with (go_at_call 107; (with_reducible refine HF.out.mono ?_); rintro e w1 ⟨rfl, hb1⟩)
 go_ret
 exact ⟨by rw [← HE.out]; rfl, hb1⟩
theorem indexU85 (A : Option Addr) (c : Nat) (l : List Int) (b : Nat) (p : Int → Bool) (w : World) (hr : Kd.C (Kd.int .u8) w A l.length l)
  (hf : ∀ (x : Int) (W : World), Below w.heap.size w W → Calls Try.prog 85 #[.int .u8 x, .pointer (some ⟨b, 0, none⟩)] W fun e W' => e = .returned (.bool (p x)) ∧ Below W.heap.size W W') :
  Calls Try.prog 108 #[.slice A l.length c, .func (.func 85) #[] #[.pointer (some ⟨b, 0, none⟩)]] w fun e w' => e = .returned (.int .i64 (idxOf p l)) ∧ Below w.heap.size w w' := by
 have HF := Lib.hid hf
 clear hf
 have HR := Aside0.mk hr
 clear hr
 go_enter Try.func108, Try.ntmps108
 go_wp2
 go_loopw [8] (fun v wr => ∃ k : Nat, k ≤ l.length ∧ v = .int .i64 k ∧ Aside0 (∀ j, j < k → p (l.getD j 0) = false) ∧ Below w.heap.size w wr) (fun v _ => l.length - (intOf v).toNat)
 case atStart => exact ⟨0, Nat.zero_le _, rfl, ⟨fun j hj => absurd hj (Nat.not_lt_zero _)⟩, Below.refl _ _⟩
 case round =>
  obtain ⟨k, hk, rfl, hno, hb⟩ := hrel
  have hm : l.length ≤ 9223372036854775807 := HR.out.2.1
  by_cases hlt : k < l.length
  ·
   obtain ⟨ad, rfl, h0⟩ := Kd.at_int (Kd.C_below HR.out hb) (k : Int) (by omega) (by omega)
   rw [Int.toNat_natCast] at h0
   cases hp : p (rd l ↑k)
   ·
    go_wp2_with (go_at_call 85; (with_reducible refine (HF.out (rd l ↑k) _ hb).mono ?_); rintro e w1 ⟨rfl, hb1⟩)
    go_roundw
    case rel => exact ⟨k + 1, by omega, by go_num, ⟨fun j hj => by
     rcases Nat.lt_succ_iff_lt_or_eq.1 hj with h | rfl
     ·
      exact hno.out j h
     ·
      exact hp⟩, below_then hb (below_size hb) hb1⟩
    case measure => simp [intOf]; omega
   ·
    have HE := Lib.hid (idxOf_hit p 0 l k hlt hno.out hp)
    go_wp2_with (go_at_call 85; (with_reducible refine (HF.out (rd l ↑k) _ hb).mono ?_); rintro e w1 ⟨rfl, hb1⟩)
    go_ret
    exact ⟨by rw [HE.out]; rfl, below_then hb (below_size hb) hb1⟩
  ·
   have HE := Lib.hid (idxOf_miss p 0 l (fun j hj => hno.out j (by omega)))
   go_wp2
   go_ret
   exact ⟨by rw [HE.out]; rfl, hb⟩
theorem containsU (A : Option Addr) (c : Nat) (l : List Int) (b : Nat) (p : Int → Bool) (w : World) (hr : Kd.C (Kd.int .u8) w A l.length l)
  (hf : ∀ (x : Int) (W : World), Below w.heap.size w W → Calls Try.prog 85 #[.int .u8 x, .pointer (some ⟨b, 0, none⟩)] W fun e W' => e = .returned (.bool (p x)) ∧ Below W.heap.size W W') :
  Calls Try.prog 84 #[.slice A l.length c, .func (.func 85) #[] #[.pointer (some ⟨b, 0, none⟩)]] w fun e w' => e = .returned (.bool (l.any p)) ∧ Below w.heap.size w w' := by
 have HF := Lib.hid (indexU85 A c l b p w hr hf)
 clear hf hr
 have HE := Lib.hid (idxOf_any p l)
 go_enter Try.func84, Try.ntmps84
 go_wp2_with (go_at_call 108; (with_reducible refine HF.out.mono ?_); rintro e w1 ⟨rfl, hb1⟩)
 go_ret
 exact ⟨by rw [← HE.out]; rfl, hb1⟩
theorem indexI103 (A : Option Addr) (c : Nat) (l : List Int) (b : Nat) (p : Int → Bool) (w : World) (hr : Kd.C (Kd.int .i64) w A l.length l)
  (hf : ∀ (x : Int) (W : World), Below w.heap.size w W → Calls Try.prog 103 #[.int .i64 x, .pointer (some ⟨b, 0, none⟩)] W fun e W' => e = .returned (.bool (p x)) ∧ Below W.heap.size W W') :
  Calls Try.prog 110 #[.slice A l.length c, .func (.func 103) #[] #[.pointer (some ⟨b, 0, none⟩)]] w fun e w' => e = .returned (.int .i64 (idxOf p l)) ∧ Below w.heap.size w w' := by
 have HF := Lib.hid hf
 clear hf
 have HR := Aside0.mk hr
 clear hr
 go_enter Try.func110, Try.ntmps110
 go_wp2
 go_loopw [8] (fun v wr => ∃ k : Nat, k ≤ l.length ∧ v = .int .i64 k ∧ Aside0 (∀ j, j < k → p (l.getD j 0) = false) ∧ Below w.heap.size w wr) (fun v _ => l.length - (intOf v).toNat)
 case atStart => exact ⟨0, Nat.zero_le _, rfl, ⟨fun j hj => absurd hj (Nat.not_lt_zero _)⟩, Below.refl _ _⟩
 case round =>
  obtain ⟨k, hk, rfl, hno, hb⟩ := hrel
  have hm : l.length ≤ 9223372036854775807 := HR.out.2.1
  by_cases hlt : k < l.length
  ·
   obtain ⟨ad, rfl, h0⟩ := Kd.at_int (Kd.C_below HR.out hb) (k : Int) (by omega) (by omega)
   rw [Int.toNat_natCast] at h0
   cases hp : p (rd l ↑k)
   ·
    go_wp2_with (go_at_call 103; (with_reducible refine (HF.out (rd l ↑k) _ hb).mono ?_); rintro e w1 ⟨rfl, hb1⟩)
    go_roundw
    case rel => exact ⟨k + 1, by omega, by go_num, ⟨fun j hj => by
     rcases Nat.lt_succ_iff_lt_or_eq.1 hj with h | rfl
     ·
      exact hno.out j h
     ·
      exact hp⟩, below_then hb (below_size hb) hb1⟩
    case measure => simp [intOf]; omega
   ·
    have HE := Lib.hid (idxOf_hit p 0 l k hlt hno.out hp)
    go_wp2_with (go_at_call 103; (with_reducible refine (HF.out (rd l ↑k) _ hb).mono ?_); rintro e w1 ⟨rfl, hb1⟩)
    go_ret
    exact ⟨by rw [HE.out]; rfl, below_then hb (below_size hb) hb1⟩
  ·
   have HE := Lib.hid (idxOf_miss p 0 l (fun j hj => hno.out j (by omega)))
   go_wp2
   go_ret
   exact ⟨by rw [HE.out]; rfl, hb⟩
theorem containsI (A : Option Addr) (c : Nat) (l : List Int) (b : Nat) (p : Int → Bool) (w : World) (hr : Kd.C (Kd.int .i64) w A l.length l)
  (hf : ∀ (x : Int) (W : World), Below w.heap.size w W → Calls Try.prog 103 #[.int .i64 x, .pointer (some ⟨b, 0, none⟩)] W fun e W' => e = .returned (.bool (p x)) ∧ Below W.heap.size W W') :
  Calls Try.prog 102 #[.slice A l.length c, .func (.func 103) #[] #[.pointer (some ⟨b, 0, none⟩)]] w fun e w' => e = .returned (.bool (l.any p)) ∧ Below w.heap.size w w' := by
 have HF := Lib.hid (indexI103 A c l b p w hr hf)
 clear hf hr
 have HE := Lib.hid (idxOf_any p l)
 go_enter Try.func102, Try.ntmps102
 go_wp2_with (go_at_call 110; (with_reducible refine HF.out.mono ?_); rintro e w1 ⟨rfl, hb1⟩)
 go_ret
 exact ⟨by rw [← HE.out]; rfl, hb1⟩
theorem allclG52 (n0 : Int) (A0 : Option Addr) (m0 c0 : Nat) (x : S85) (b : Nat) (q : S85 → Bool) (w : World) (hcell : w.cell? ⟨b, 0, none⟩ = some (.func (.func 52) #[.agg #[.int .i64 n0, .slice A0 m0 c0]] #[]))
  (hg : ∀ W : World, Below w.heap.size w W → Calls Try.prog 52 #[.agg #[.int .i64 n0, .slice A0 m0 c0], .agg #[.int .i64 x.f0, .int .i64 x.f1, .int .i64 x.f2, .int .i64 x.f3, .bool x.f4]] W fun e W' => e = .returned (.bool (q x)) ∧ Below W.heap.size W W') :
  Calls Try.prog 83 #[.agg #[.int .i64 x.f0, .int .i64 x.f1, .int .i64 x.f2, .int .i64 x.f3, .bool x.f4], .pointer (some ⟨b, 0, none⟩)] w fun e w' => e = .returned (.bool (!q x)) ∧ Below w.heap.size w w' := by
 have HG := Lib.hid hg
 clear hg
 have hlt := World.block_lt_of_cell? w _ hcell
 go_enter Try.func83, Try.ntmps83
 go_wp2_with (go_at_call 52; (with_reducible refine (HG.out _ ?hb).mono ?_); (case hb => exact below_alloc (Below.refl _ _) _); rintro e w1 ⟨rfl, hb1⟩)
 go_ret
 exact ⟨rfl, below_then (below_alloc (Below.refl _ _) _) (by simp) hb1⟩
theorem allG52 (n0 : Int) (A0 : Option Addr) (m0 c0 : Nat) (A : Option Addr) (c : Nat) (l : List S85) (q : S85 → Bool) (w : World) (hr : Kd.C k85 w A l.length l)
  (hg : ∀ (x : S85) (W : World), Below w.heap.size w W → Calls Try.prog 52 #[.agg #[.int .i64 n0, .slice A0 m0 c0], .agg #[.int .i64 x.f0, .int .i64 x.f1, .int .i64 x.f2, .int .i64 x.f3, .bool x.f4]] W fun e W' => e = .returned (.bool (q x)) ∧ Below W.heap.size W W') :
  Calls Try.prog 51 #[.slice A l.length c, .func (.func 52) #[.agg #[.int .i64 n0, .slice A0 m0 c0]] #[]] w fun e w' => e = .returned (.bool (l.all q)) ∧ Below w.heap.size w w' := by
 have hw : Below w.heap.size w (w.alloc (.cells #[.func (.func 52) #[.agg #[.int .i64 n0, .slice A0 m0 c0]] #[]] 88 (0, 0))) := below_alloc (Below.refl _ _) _
 have HF := Lib.hid (containsG A c l w.heap.size (fun x => !q x) (w.alloc (.cells #[.func (.func 52) #[.agg #[.int .i64 n0, .slice A0 m0 c0]] #[]] 88 (0, 0))) (Kd.C_below hr hw) (fun x W hW => allclG52 n0 A0 m0 c0 x w.heap.size q W
  ((hW.cell (by simp)).trans (World.cell?_alloc_new _ _ _ _)) (fun W' hW' => hg x W' (below_then (below_then hw (by simp) hW) (below_then hw (by simp) hW).size hW'))))
 have HE := Lib.hid (not_any_not q l)
 clear hg hr
 go_enter Try.func51, Try.ntmps51
 go_wp2_with (go_at_call 82; (with_reducible refine HF.out.mono ?_); rintro e w1 ⟨rfl, hb1⟩)
 go_ret
 exact ⟨by rw [← HE.out]; rfl, below_then (below_alloc (Below.refl _ _) _) (by simp) hb1⟩
theorem allclU54 (x : Int) (b : Nat) (q : Int → Bool) (w : World) (hcell : w.cell? ⟨b, 0, none⟩ = some (.func (.func 54) #[] #[]))
  (hg : ∀ W : World, Below w.heap.size w W → Calls Try.prog 54 #[.int .u8 x] W fun e W' => e = .returned (.bool (q x)) ∧ Below W.heap.size W W') :
  Calls Try.prog 85 #[.int .u8 x, .pointer (some ⟨b, 0, none⟩)] w fun e w' => e = .returned (.bool (!q x)) ∧ Below w.heap.size w w' := by
 have HG := Lib.hid hg
 clear hg
 have hlt := World.block_lt_of_cell? w _ hcell
 go_enter Try.func85, Try.ntmps85
 go_wp2_with (go_at_call 54; (with_reducible refine (HG.out _ ?hb).mono ?_); (case hb => exact Below.refl _ _); rintro e w1 ⟨rfl, hb1⟩)
 go_ret
 exact ⟨rfl, hb1⟩
theorem allU54 (A : Option Addr) (c : Nat) (l : List Int) (q : Int → Bool) (w : World) (hr : Kd.C (Kd.int .u8) w A l.length l)
  (hg : ∀ (x : Int) (W : World), Below w.heap.size w W → Calls Try.prog 54 #[.int .u8 x] W fun e W' => e = .returned (.bool (q x)) ∧ Below W.heap.size W W') :
  Calls Try.prog 53 #[.slice A l.length c, .func (.func 54) #[] #[]] w fun e w' => e = .returned (.bool (l.all q)) ∧ Below w.heap.size w w' := by
 have hw : Below w.heap.size w (w.alloc (.cells #[.func (.func 54) #[] #[]] 90 (0, 0))) := below_alloc (Below.refl _ _) _
 have HF := Lib.hid (containsU A c l w.heap.size (fun x => !q x) (w.alloc (.cells #[.func (.func 54) #[] #[]] 90 (0, 0))) (Kd.C_below hr hw) (fun x W hW => allclU54 x w.heap.size q W
  ((hW.cell (by simp)).trans (World.cell?_alloc_new _ _ _ _)) (fun W' hW' => hg x W' (below_then (below_then hw (by simp) hW) (below_then hw (by simp) hW).size hW'))))
 have HE := Lib.hid (not_any_not q l)
 clear hg hr
 go_enter Try.func53, Try.ntmps53
 go_wp2_with (go_at_call 84; (with_reducible refine HF.out.mono ?_); rintro e w1 ⟨rfl, hb1⟩)
 go_ret
 exact ⟨by rw [← HE.out]; rfl, below_then (below_alloc (Below.refl _ _) _) (by simp) hb1⟩
theorem allclU60 (x : Int) (b : Nat) (q : Int → Bool) (w : World) (hcell : w.cell? ⟨b, 0, none⟩ = some (.func (.func 60) #[] #[]))
  (hg : ∀ W : World, Below w.heap.size w W → Calls Try.prog 60 #[.int .u8 x] W fun e W' => e = .returned (.bool (q x)) ∧ Below W.heap.size W W') :
  Calls Try.prog 85 #[.int .u8 x, .pointer (some ⟨b, 0, none⟩)] w fun e w' => e = .returned (.bool (!q x)) ∧ Below w.heap.size w w' := by
 have HG := Lib.hid hg
 clear hg
 have hlt := World.block_lt_of_cell? w _ hcell
 go_enter Try.func85, Try.ntmps85
 go_wp2_with (go_at_call 60; (with_reducible refine (HG.out _ ?hb).mono ?_); (case hb => exact Below.refl _ _); rintro e w1 ⟨rfl, hb1⟩)
 go_ret
 exact ⟨rfl, hb1⟩
theorem allU60 (A : Option Addr) (c : Nat) (l : List Int) (q : Int → Bool) (w : World) (hr : Kd.C (Kd.int .u8) w A l.length l)
  (hg : ∀ (x : Int) (W : World), Below w.heap.size w W → Calls Try.prog 60 #[.int .u8 x] W fun e W' => e = .returned (.bool (q x)) ∧ Below W.heap.size W W') :
  Calls Try.prog 53 #[.slice A l.length c, .func (.func 60) #[] #[]] w fun e w' => e = .returned (.bool (l.all q)) ∧ Below w.heap.size w w' := by
 have hw : Below w.heap.size w (w.alloc (.cells #[.func (.func 60) #[] #[]] 90 (0, 0))) := below_alloc (Below.refl _ _) _
 have HF := Lib.hid (containsU A c l w.heap.size (fun x => !q x) (w.alloc (.cells #[.func (.func 60) #[] #[]] 90 (0, 0))) (Kd.C_below hr hw) (fun x W hW => allclU60 x w.heap.size q W
  ((hW.cell (by simp)).trans (World.cell?_alloc_new _ _ _ _)) (fun W' hW' => hg x W' (below_then (below_then hw (by simp) hW) (below_then hw (by simp) hW).size hW'))))
 have HE := Lib.hid (not_any_not q l)
 clear hg hr
 go_enter Try.func53, Try.ntmps53
 go_wp2_with (go_at_call 84; (with_reducible refine HF.out.mono ?_); rintro e w1 ⟨rfl, hb1⟩)
 go_ret
 exact ⟨by rw [← HE.out]; rfl, below_then (below_alloc (Below.refl _ _) _) (by simp) hb1⟩
theorem allclI74 (n0 : Int) (A0 : Option Addr) (m0 c0 : Nat) (x : Int) (b : Nat) (q : Int → Bool) (w : World) (hcell : w.cell? ⟨b, 0, none⟩ = some (.func (.func 74) #[.agg #[.int .i64 n0, .slice A0 m0 c0]] #[]))
  (hg : ∀ W : World, Below w.heap.size w W → Calls Try.prog 74 #[.agg #[.int .i64 n0, .slice A0 m0 c0], .int .i64 x] W fun e W' => e = .returned (.bool (q x)) ∧ Below W.heap.size W W') :
  Calls Try.prog 103 #[.int .i64 x, .pointer (some ⟨b, 0, none⟩)] w fun e w' => e = .returned (.bool (!q x)) ∧ Below w.heap.size w w' := by
 have HG := Lib.hid hg
 clear hg
 have hlt := World.block_lt_of_cell? w _ hcell
 go_enter Try.func103, Try.ntmps103
 go_wp2_with (go_at_call 74; (with_reducible refine (HG.out _ ?hb).mono ?_); (case hb => exact Below.refl _ _); rintro e w1 ⟨rfl, hb1⟩)
 go_ret
 exact ⟨rfl, hb1⟩
theorem allI74 (n0 : Int) (A0 : Option Addr) (m0 c0 : Nat) (A : Option Addr) (c : Nat) (l : List Int) (q : Int → Bool) (w : World) (hr : Kd.C (Kd.int .i64) w A l.length l)
  (hg : ∀ (x : Int) (W : World), Below w.heap.size w W → Calls Try.prog 74 #[.agg #[.int .i64 n0, .slice A0 m0 c0], .int .i64 x] W fun e W' => e = .returned (.bool (q x)) ∧ Below W.heap.size W W') :
  Calls Try.prog 73 #[.slice A l.length c, .func (.func 74) #[.agg #[.int .i64 n0, .slice A0 m0 c0]] #[]] w fun e w' => e = .returned (.bool (l.all q)) ∧ Below w.heap.size w w' := by
 have hw : Below w.heap.size w (w.alloc (.cells #[.func (.func 74) #[.agg #[.int .i64 n0, .slice A0 m0 c0]] #[]] 86 (0, 0))) := below_alloc (Below.refl _ _) _
 have HF := Lib.hid (containsI A c l w.heap.size (fun x => !q x) (w.alloc (.cells #[.func (.func 74) #[.agg #[.int .i64 n0, .slice A0 m0 c0]] #[]] 86 (0, 0))) (Kd.C_below hr hw) (fun x W hW => allclI74 n0 A0 m0 c0 x w.heap.size q W
  ((hW.cell (by simp)).trans (World.cell?_alloc_new _ _ _ _)) (fun W' hW' => hg x W' (below_then (below_then hw (by simp) hW) (below_then hw (by simp) hW).size hW'))))
 have HE := Lib.hid (not_any_not q l)
 clear hg hr
 go_enter Try.func73, Try.ntmps73
 go_wp2_with (go_at_call 102; (with_reducible refine HF.out.mono ?_); rintro e w1 ⟨rfl, hb1⟩)
 go_ret
 exact ⟨by rw [← HE.out]; rfl, below_then (below_alloc (Below.refl _ _) _) (by simp) hb1⟩
end Go.Proofs.Ytmnamkcjldaoeaa.PAll
namespace Go.Proofs.Ytmnamkcjldaoeaa.PAll
open Go.RowKit Go.Proofs.YtmnamkcjldaoeaaW.PrintWords Go.Proofs.YtmnamkcjldaoeaaW.PrintLast Go.Proofs.YtmnamkcjldaoeaaW.PrintMore
set_option linter.unusedVariables false
set_option linter.unusedSimpArgs false
def gameB (n : Int) (g : S85) : Bool :=
 decide (0 ≤ g.f2) && decide (g.f2 ≤ 3000) && decide (0 ≤ g.f3) && decide (g.f3 ≤ 3000) && decide (0 ≤ g.f0) && decide (g.f0 < n) && decide (0 ≤ g.f1) && decide (g.f1 < n) && !decide (g.f0 = g.f1) && (!g.f4 || (decide (g.f2 = 0) && decide (g.f3 = 0)))
def teamsB (n : Int) : Bool := decide (2 ≤ n) && decide (n ≤ 6)
def checkF (n : Int) (l : List S85) : Int := if 20 < l.length then 3 else if teamsB n && l.all (gameB n) then 0 else 1
def league_CheckLeague.f (a0_0 : Int) (l0_1 : List (S85)) : Option (Int) := some (checkF a0_0 l0_1)
theorem within_eq (a b c : Int) : league_within.f a b c = some (decide (b ≤ a) && decide (a ≤ c)) := by
 unfold league_within.f
 by_cases h : b ≤ a <;> simp [h]
theorem teams_eq (n : Int) : league_teams.f n = some (teamsB n) := by
 unfold league_teams.f teamsB
 rw [within_eq]; rfl
theorem team_eq (n : Int) (l : List S85) (t : Int) (h2 : 2 ≤ n) (h6 : n ≤ 6) : league_League_team.f n l t = some (decide (0 ≤ t) && decide (t < n)) := by
 unfold league_League_team.f
 rw [within_eq]
 have e : wrap64 (n - 1) = n - 1 := by unfold wrap64; omega
 rw [e]
 simp only [Option.bind_some]
 congr 2
 exact decide_eq_decide.2 (by omega)
theorem game_eq (n : Int) (l : List S85) (g : S85) (h2 : 2 ≤ n) (h6 : n ≤ 6) : league_League_game.f n l g.f0 g.f1 g.f2 g.f3 g.f4 = some (gameB n g) := by
 unfold league_League_game.f gameB
 simp only [within_eq, team_eq n l _ h2 h6, Option.bind_some]
 by_cases a1 : 0 ≤ g.f2 <;> by_cases a2 : g.f2 ≤ 3000 <;> by_cases a3 : 0 ≤ g.f0 <;> by_cases a4 : g.f0 < n <;> by_cases a5 : 0 ≤ g.f1 <;> by_cases a6 : g.f1 < n <;> by_cases a7 : g.f0 = g.f1 <;> simp [a1, a2, a3, a4, a5, a6, a7]
 by_cases a8 : 0 ≤ g.f3 <;> by_cases a9 : g.f3 ≤ 3000 <;> cases h : g.f4 <;> by_cases b1 : g.f2 = 0 <;> simp [a8, a9, b1]
 by_cases b2 : g.f3 = 0 <;> simp [b2]
set_option maxHeartbeats 1000000 in
theorem league_CheckLeague.calls (a0_0 : Int) (A0_1 : Option Addr) (c0_1 : Nat) (l0_1 : List (S85)) (r : Int) (w : World) (hr0_1 : Kd.C k85 w A0_1 l0_1.length l0_1) (hc0_1 : l0_1.length ≤ c0_1) (h : league_CheckLeague.f a0_0 l0_1 = some r) :
  Calls Try.prog 17 #[.agg #[.int .i64 a0_0, .slice A0_1 l0_1.length c0_1]] w fun e w' => e = .returned (.int .i64 r) ∧ Below w.heap.size w w' := by
 have HE := Lib.hid (Option.some.inj h)
 clear h
 have hm : l0_1.length ≤ 9223372036854775807 := hr0_1.2.1
 have HR := Aside0.mk hr0_1
 clear hr0_1
 have hw : ∀ o, Below w.heap.size w (w.alloc o) := fun o => below_alloc (Below.refl _ _) o
 have HW := Aside0.mk hw
 clear hw
 by_cases h1 : 20 < l0_1.length
 ·
  have HF := Lib.hid (show checkF a0_0 l0_1 = 3 by unfold checkF; rw [if_pos h1])
  go_enter Try.func17, Try.ntmps17
  go_wp2
  go_ret
  exact ⟨by rw [← HE.out, HF.out]; rfl, HW.out _⟩
 ·
  cases h2 : teamsB a0_0
  ·
   have HF := Lib.hid (show checkF a0_0 l0_1 = 1 by unfold checkF; rw [if_neg h1, h2]; rfl)
   have HT := Lib.hid (teams_eq a0_0)
   go_enter Try.func17, Try.ntmps17
   go_wp2_with (go_at_call 50; (with_reducible refine (league_teams.calls a0_0 false _ (by rw [HT.out, h2])).mono ?_); rintro e w1 ⟨rfl, hb1⟩)
   go_ret
   exact ⟨by rw [← HE.out, HF.out]; rfl, below_then (HW.out _) (by simp) hb1.below⟩
  ·
   have hn : 2 ≤ a0_0 ∧ a0_0 ≤ 6 := by unfold teamsB at h2; simpa using h2
   have HT := Lib.hid (teams_eq a0_0)
   have HF : Hid (checkF a0_0 l0_1 = if l0_1.all (gameB a0_0) then 0 else 1) := by unfold checkF; rw [if_neg h1, h2]; rfl
   have HA := fun (W : World) (hW : Below w.heap.size w W) => allG52 a0_0 A0_1 l0_1.length c0_1 A0_1 c0_1 l0_1 (gameB a0_0) W (Kd.C_below HR.out hW) (fun x W' hW' =>
    (league_League_game.calls a0_0 A0_1 c0_1 l0_1 x.f0 x.f1 x.f2 x.f3 x.f4 (gameB a0_0 x) W' (Kd.C_below HR.out (below_then hW hW.size hW')) hc0_1 (game_eq a0_0 l0_1 x hn.1 hn.2)))
   have HA := Lib.hid HA
   have hc := Aside0.mk hc0_1
   clear hc0_1
   cases h3 : l0_1.all (gameB a0_0)
   all_goals
    go_enter Try.func17, Try.ntmps17
    go_wp2_with (first | (go_at_call 50; (with_reducible refine (league_teams.calls a0_0 true _ (by rw [HT.out, h2])).mono ?_); rintro e w1 ⟨rfl, ⟨nd, rfl⟩⟩) | (go_at_call 51; (with_reducible refine (HA.out _ ?hb).mono ?_); (case hb => exact pw_below_drewN (HW.out _) _); rintro e w2 ⟨rfl, hb2⟩))
    go_ret
    exact ⟨by rw [← HE.out, HF.out, h3]; rfl, below_then (pw_below_drewN (HW.out _) _) (by simp) hb2⟩
end Go.Proofs.Ytmnamkcjldaoeaa.PAll
namespace Go.Proofs.Ytmnamkcjldaoeaa.PAll
open Go.RowKit Go.Proofs.YtmnamkcjldaoeaaW.PrintWords Go.Proofs.YtmnamkcjldaoeaaW.PrintLast Go.Proofs.YtmnamkcjldaoeaaW.PrintMore
attribute [local go_sem] max2_int min2_int max_two min_two max_three min_three max_four min_four   -- for this text's walks alone
set_option linter.unusedVariables false
set_option linter.unusedSimpArgs false
def league_League_asked.f (a0_0 : Int) (l0_1 : List (S85)) (a1 : Int) : Option (Int) := (league_CheckLeague.f a0_0 l0_1).bind fun t170 => (if t170 = 0 then ((league_League_team.f a0_0 l0_1 a1).bind fun t171 => (if t171 = true then (some 0) else (some 2))) else (some t170))
set_option maxHeartbeats 8000000 in
set_option maxRecDepth 100000 in
theorem league_League_asked.calls (a0_0 : Int) (A0_1 : Option Addr) (c0_1 : Nat) (l0_1 : List (S85)) (a1 : Int) (r : Int) (w : World) (hr0_1 : Kd.C k85 w A0_1 l0_1.length l0_1) (hc0_1 : l0_1.length ≤ c0_1) (h : league_League_asked.f a0_0 l0_1 a1 = some r) :
  Calls Try.prog 69 #[.agg #[.int .i64 a0_0, .slice A0_1 l0_1.length c0_1], .int .i64 a1] w fun e w' => e = .returned (.int .i64 r) ∧ Below w.heap.size w w' := by
 have hu32 := Try.underlying32
 have HR0_1 := Aside0.mk hr0_1
 have HC0_1 := Aside0.mk hc0_1
 clear hr0_1 hc0_1
 have HB := Aside0.mk (Below.refl w.heap.size w)
 have H : ((league_CheckLeague.f a0_0 l0_1).bind fun t170 => (if t170 = 0 then ((league_League_team.f a0_0 l0_1 a1).bind fun t171 => (if t171 = true then (some 0) else (some 2))) else (some t170))) = some r := h
 clear h
 replace H := Option.bind_eq_some_iff.mp H
 obtain ⟨t170, A30, H⟩ := H
 replace H : (if t170 = 0 then ((league_League_team.f a0_0 l0_1 a1).bind fun t171 => (if t171 = true then (some 0) else (some 2))) else (some t170)) = some r := H
 have A3 := Aside0.mk A30
 clear A30
 by_cases c4 : t170 = 0
 ·
  rw [if_pos c4] at H
  have c4b0 : (t170 == 0) = true := beq_iff_eq.mpr c4
  have c4b1 : (t170 != 0) = false := bne_eq_false_iff_eq.mpr c4
  clear c4
  replace H := Option.bind_eq_some_iff.mp H
  obtain ⟨t171, A50, H⟩ := H
  replace H : (if t171 = true then (some 0) else (some 2)) = some r := H
  have A5 := Aside0.mk A50
  clear A50
  by_cases c6 : t171 = true
  ·
   subst c6
   have H1 : (some 0) = some r := by rw [if_pos rfl] at H; exact H
   clear H
   have H := H1
   clear H1
   obtain rfl := Option.some.inj H
   go_enter Try.func69, Try.ntmps69
   go_wp2_with (first | ((with_reducible refine gate_dst (N := 2) rfl ?_); refine box_event ?hg (N := 2) ?hd (cs := #[.int .i64 a0_0, .slice A0_1 l0_1.length c0_1]) (t := 32) ?hr ?_; (case hd => rfl); (case hg => rfl); (case hr => first | (go_simp; done) | (go_simp; rfl)); intro gb169 hg w7 hbox hb; have n0_ := Aside0.mk (below_step (by repeat (first | (with_reducible first | exact HB.out | apply below_alloc | apply pw_below_drewN | apply below_drew1) | exact HB.out)) hb); have n1_ := Aside0.mk (hbox); have n2_ := Aside0.mk ((by rw [hg]; exact (below_size (by repeat (first | (with_reducible first | exact HB.out | apply below_alloc | apply pw_below_drewN | apply below_drew1) | exact HB.out))) : w.heap.size ≤ gb169)); have n3_ := Aside0.mk ((by rw [hg]; exact (below_size (by repeat (first | (with_reducible first | exact HB.out | apply below_alloc | apply pw_below_drewN | apply below_drew1) | exact HB.out))) : w.heap.size ≤ gb169)); clear HB; have HB := n0_; have BK169 := n1_; have GW169 := n2_; have GE169 := n3_; clear n0_ n1_ n2_ n3_; clear hb hbox hg; have hcz8_0 : w7.cell? ⟨gb169, 0, none⟩ = some (.int .i64 a0_0) := (blk_cell BK169.out 0).trans rfl; have hcz8_1 : w7.cell? ⟨gb169, 1, none⟩ = some (.slice A0_1 l0_1.length c0_1) := (blk_cell BK169.out 1).trans rfl; have hfz8_0 := blk_frozen BK169.out 0; have hfz8_1 := blk_frozen BK169.out 1) | ((with_reducible refine gate_callee (f := 17) rfl ?_); refine goesL_ (some 7) rfl rfl Try.func17 (by kernel_rfl) rfl #[.agg #[.int .i64 a0_0, .slice A0_1 l0_1.length c0_1]] rfl (by (try simp only [List.map_toArray, List.map_cons, List.map_nil]); first | done | rfl | (simp only [List.length_drop, List.length_take]; rfl)) ?_; (with_reducible refine (league_CheckLeague.calls a0_0 _ _ l0_1 t170 _ ?side1 ?side2 A3.out).mono ?_); (case side1 => repeat (first | exact (Kd.C_below HR0_1.out HB.out) | (with_reducible refine Kd.C_alloc ?_ _) | (with_reducible refine Kd.C_drewN ?_ _) | (with_reducible refine Kd.C_drew ?_))); (case side2 => exact HC0_1.out); rintro e w9 ⟨rfl, hb⟩; refine ⟨_, rfl, ?_⟩; have n0_ := Aside0.mk (blk_below (g := gb169) (o := .cells #[.int .i64 a0_0, .slice A0_1 l0_1.length c0_1] 32 (0, 0)) (by (with_reducible repeat (first | refine blk_drewN ?_ _ | refine blk_drew ?_ | refine blk_alloc ?_ _)); exact BK169.out) hb); have n1_ := Aside0.mk (below_step (by repeat (first | (with_reducible first | exact HB.out | apply below_alloc | apply pw_below_drewN | apply below_drew1 | refine below_set ?_ GE169.out) | exact HB.out)) hb); clear BK169; clear HB; have BK169 := n0_; have HB := n1_; clear n0_ n1_; (try clear hb); (try clear hb2); (try clear hk); (try clear hi); have hcz10_0 : w9.cell? ⟨gb169, 0, none⟩ = some (.int .i64 a0_0) := (blk_cell BK169.out 0).trans rfl; have hcz10_1 : w9.cell? ⟨gb169, 1, none⟩ = some (.slice A0_1 l0_1.length c0_1) := (blk_cell BK169.out 1).trans rfl; have hfz10_0 := blk_frozen BK169.out 0; have hfz10_1 := blk_frozen BK169.out 1) | ((with_reducible refine gate_callee (f := 74) rfl ?_); refine goesL_ (some 13) rfl rfl Try.func74 (by kernel_rfl) rfl #[.agg #[.int .i64 a0_0, .slice A0_1 l0_1.length c0_1], .int .i64 a1] rfl (by (try simp only [List.map_toArray, List.map_cons, List.map_nil]); first | done | rfl | (simp only [List.length_drop, List.length_take]; rfl)) ?_; (with_reducible refine (league_League_team.calls a0_0 _ _ l0_1 a1 true _ ?side1 ?side2 A5.out).mono ?_); (case side1 => repeat (first | exact (Kd.C_below HR0_1.out HB.out) | (with_reducible refine Kd.C_alloc ?_ _) | (with_reducible refine Kd.C_drewN ?_ _) | (with_reducible refine Kd.C_drew ?_))); (case side2 => exact HC0_1.out); rintro e w11 ⟨rfl, hb⟩; refine ⟨_, rfl, ?_⟩; have n0_ := Aside0.mk (blk_below (g := gb169) (o := .cells #[.int .i64 a0_0, .slice A0_1 l0_1.length c0_1] 32 (0, 0)) (by (with_reducible repeat (first | refine blk_drewN ?_ _ | refine blk_drew ?_ | refine blk_alloc ?_ _)); exact BK169.out) hb); have n1_ := Aside0.mk (below_step (by repeat (first | (with_reducible first | exact HB.out | apply below_alloc | apply pw_below_drewN | apply below_drew1 | refine below_set ?_ GE169.out) | exact HB.out)) hb); clear BK169; clear HB; have BK169 := n0_; have HB := n1_; clear n0_ n1_; (try clear hb); (try clear hb2); (try clear hk); (try clear hi)))
   go_ret
   exact ⟨by first | rfl | (simp [errW_none, errW_some] <;> rfl) | (simp [*, errW_none, errW_some] <;> rfl), by repeat (first | (with_reducible first | exact HB.out | apply below_alloc | apply pw_below_drewN | apply below_drew1 | refine below_set ?_ GE169.out) | exact HB.out)⟩
  ·
   replace c6 := Bool.eq_false_iff.mpr c6
   subst c6
   have H1 : (some 2) = some r := by rw [if_neg (show ¬ (false = true) by decide)] at H; exact H
   clear H
   have H := H1
   clear H1
   obtain rfl := Option.some.inj H
   go_enter Try.func69, Try.ntmps69
   go_wp2_with (first | ((with_reducible refine gate_dst (N := 2) rfl ?_); refine box_event ?hg (N := 2) ?hd (cs := #[.int .i64 a0_0, .slice A0_1 l0_1.length c0_1]) (t := 32) ?hr ?_; (case hd => rfl); (case hg => rfl); (case hr => first | (go_simp; done) | (go_simp; rfl)); intro gb169 hg w12 hbox hb; have n0_ := Aside0.mk (below_step (by repeat (first | (with_reducible first | exact HB.out | apply below_alloc | apply pw_below_drewN | apply below_drew1) | exact HB.out)) hb); have n1_ := Aside0.mk (hbox); have n2_ := Aside0.mk ((by rw [hg]; exact (below_size (by repeat (first | (with_reducible first | exact HB.out | apply below_alloc | apply pw_below_drewN | apply below_drew1) | exact HB.out))) : w.heap.size ≤ gb169)); have n3_ := Aside0.mk ((by rw [hg]; exact (below_size (by repeat (first | (with_reducible first | exact HB.out | apply below_alloc | apply pw_below_drewN | apply below_drew1) | exact HB.out))) : w.heap.size ≤ gb169)); clear HB; have HB := n0_; have BK169 := n1_; have GW169 := n2_; have GE169 := n3_; clear n0_ n1_ n2_ n3_; clear hb hbox hg; have hcz13_0 : w12.cell? ⟨gb169, 0, none⟩ = some (.int .i64 a0_0) := (blk_cell BK169.out 0).trans rfl; have hcz13_1 : w12.cell? ⟨gb169, 1, none⟩ = some (.slice A0_1 l0_1.length c0_1) := (blk_cell BK169.out 1).trans rfl; have hfz13_0 := blk_frozen BK169.out 0; have hfz13_1 := blk_frozen BK169.out 1) | ((with_reducible refine gate_callee (f := 17) rfl ?_); refine goesL_ (some 7) rfl rfl Try.func17 (by kernel_rfl) rfl #[.agg #[.int .i64 a0_0, .slice A0_1 l0_1.length c0_1]] rfl (by (try simp only [List.map_toArray, List.map_cons, List.map_nil]); first | done | rfl | (simp only [List.length_drop, List.length_take]; rfl)) ?_; (with_reducible refine (league_CheckLeague.calls a0_0 _ _ l0_1 t170 _ ?side1 ?side2 A3.out).mono ?_); (case side1 => repeat (first | exact (Kd.C_below HR0_1.out HB.out) | (with_reducible refine Kd.C_alloc ?_ _) | (with_reducible refine Kd.C_drewN ?_ _) | (with_reducible refine Kd.C_drew ?_))); (case side2 => exact HC0_1.out); rintro e w14 ⟨rfl, hb⟩; refine ⟨_, rfl, ?_⟩; have n0_ := Aside0.mk (blk_below (g := gb169) (o := .cells #[.int .i64 a0_0, .slice A0_1 l0_1.length c0_1] 32 (0, 0)) (by (with_reducible repeat (first | refine blk_drewN ?_ _ | refine blk_drew ?_ | refine blk_alloc ?_ _)); exact BK169.out) hb); have n1_ := Aside0.mk (below_step (by repeat (first | (with_reducible first | exact HB.out | apply below_alloc | apply pw_below_drewN | apply below_drew1 | refine below_set ?_ GE169.out) | exact HB.out)) hb); clear BK169; clear HB; have BK169 := n0_; have HB := n1_; clear n0_ n1_; (try clear hb); (try clear hb2); (try clear hk); (try clear hi); have hcz15_0 : w14.cell? ⟨gb169, 0, none⟩ = some (.int .i64 a0_0) := (blk_cell BK169.out 0).trans rfl; have hcz15_1 : w14.cell? ⟨gb169, 1, none⟩ = some (.slice A0_1 l0_1.length c0_1) := (blk_cell BK169.out 1).trans rfl; have hfz15_0 := blk_frozen BK169.out 0; have hfz15_1 := blk_frozen BK169.out 1) | ((with_reducible refine gate_callee (f := 74) rfl ?_); refine goesL_ (some 13) rfl rfl Try.func74 (by kernel_rfl) rfl #[.agg #[.int .i64 a0_0, .slice A0_1 l0_1.length c0_1], .int .i64 a1] rfl (by (try simp only [List.map_toArray, List.map_cons, List.map_nil]); first | done | rfl | (simp only [List.length_drop, List.length_take]; rfl)) ?_; (with_reducible refine (league_League_team.calls a0_0 _ _ l0_1 a1 false _ ?side1 ?side2 A5.out).mono ?_); (case side1 => repeat (first | exact (Kd.C_below HR0_1.out HB.out) | (with_reducible refine Kd.C_alloc ?_ _) | (with_reducible refine Kd.C_drewN ?_ _) | (with_reducible refine Kd.C_drew ?_))); (case side2 => exact HC0_1.out); rintro e w16 ⟨rfl, hb⟩; refine ⟨_, rfl, ?_⟩; have n0_ := Aside0.mk (blk_below (g := gb169) (o := .cells #[.int .i64 a0_0, .slice A0_1 l0_1.length c0_1] 32 (0, 0)) (by (with_reducible repeat (first | refine blk_drewN ?_ _ | refine blk_drew ?_ | refine blk_alloc ?_ _)); exact BK169.out) hb); have n1_ := Aside0.mk (below_step (by repeat (first | (with_reducible first | exact HB.out | apply below_alloc | apply pw_below_drewN | apply below_drew1 | refine below_set ?_ GE169.out) | exact HB.out)) hb); clear BK169; clear HB; have BK169 := n0_; have HB := n1_; clear n0_ n1_; (try clear hb); (try clear hb2); (try clear hk); (try clear hi)))
   go_ret
   exact ⟨by first | rfl | (simp [errW_none, errW_some] <;> rfl) | (simp [*, errW_none, errW_some] <;> rfl), by repeat (first | (with_reducible first | exact HB.out | apply below_alloc | apply pw_below_drewN | apply below_drew1 | refine below_set ?_ GE169.out) | exact HB.out)⟩
 ·
  rw [if_neg c4] at H
  have c4b0 : (t170 == 0) = false := beq_eq_false_iff_ne.mpr c4
  have c4b1 : (t170 != 0) = true := bne_iff_ne.mpr c4
  obtain rfl := Option.some.inj H
  go_enter Try.func69, Try.ntmps69
  go_wp2_with (first | ((with_reducible refine gate_dst (N := 2) rfl ?_); refine box_event ?hg (N := 2) ?hd (cs := #[.int .i64 a0_0, .slice A0_1 l0_1.length c0_1]) (t := 32) ?hr ?_; (case hd => rfl); (case hg => rfl); (case hr => first | (go_simp; done) | (go_simp; rfl)); intro gb169 hg w17 hbox hb; have n0_ := Aside0.mk (below_step (by repeat (first | (with_reducible first | exact HB.out | apply below_alloc | apply pw_below_drewN | apply below_drew1) | exact HB.out)) hb); have n1_ := Aside0.mk (hbox); have n2_ := Aside0.mk ((by rw [hg]; exact (below_size (by repeat (first | (with_reducible first | exact HB.out | apply below_alloc | apply pw_below_drewN | apply below_drew1) | exact HB.out))) : w.heap.size ≤ gb169)); have n3_ := Aside0.mk ((by rw [hg]; exact (below_size (by repeat (first | (with_reducible first | exact HB.out | apply below_alloc | apply pw_below_drewN | apply below_drew1) | exact HB.out))) : w.heap.size ≤ gb169)); clear HB; have HB := n0_; have BK169 := n1_; have GW169 := n2_; have GE169 := n3_; clear n0_ n1_ n2_ n3_; clear hb hbox hg; have hcz18_0 : w17.cell? ⟨gb169, 0, none⟩ = some (.int .i64 a0_0) := (blk_cell BK169.out 0).trans rfl; have hcz18_1 : w17.cell? ⟨gb169, 1, none⟩ = some (.slice A0_1 l0_1.length c0_1) := (blk_cell BK169.out 1).trans rfl; have hfz18_0 := blk_frozen BK169.out 0; have hfz18_1 := blk_frozen BK169.out 1) | ((with_reducible refine gate_callee (f := 17) rfl ?_); refine goesL_ (some 7) rfl rfl Try.func17 (by kernel_rfl) rfl #[.agg #[.int .i64 a0_0, .slice A0_1 l0_1.length c0_1]] rfl (by (try simp only [List.map_toArray, List.map_cons, List.map_nil]); first | done | rfl | (simp only [List.length_drop, List.length_take]; rfl)) ?_; (with_reducible refine (league_CheckLeague.calls a0_0 _ _ l0_1 t170 _ ?side1 ?side2 A3.out).mono ?_); (case side1 => repeat (first | exact (Kd.C_below HR0_1.out HB.out) | (with_reducible refine Kd.C_alloc ?_ _) | (with_reducible refine Kd.C_drewN ?_ _) | (with_reducible refine Kd.C_drew ?_))); (case side2 => exact HC0_1.out); rintro e w19 ⟨rfl, hb⟩; refine ⟨_, rfl, ?_⟩; have n0_ := Aside0.mk (blk_below (g := gb169) (o := .cells #[.int .i64 a0_0, .slice A0_1 l0_1.length c0_1] 32 (0, 0)) (by (with_reducible repeat (first | refine blk_drewN ?_ _ | refine blk_drew ?_ | refine blk_alloc ?_ _)); exact BK169.out) hb); have n1_ := Aside0.mk (below_step (by repeat (first | (with_reducible first | exact HB.out | apply below_alloc | apply pw_below_drewN | apply below_drew1 | refine below_set ?_ GE169.out) | exact HB.out)) hb); clear BK169; clear HB; have BK169 := n0_; have HB := n1_; clear n0_ n1_; (try clear hb); (try clear hb2); (try clear hk); (try clear hi)))
  go_ret
  exact ⟨by first | rfl | (simp [errW_none, errW_some] <;> rfl) | (simp [*, errW_none, errW_some] <;> rfl), by repeat (first | (with_reducible first | exact HB.out | apply below_alloc | apply pw_below_drewN | apply below_drew1 | refine below_set ?_ GE169.out) | exact HB.out)⟩
end Go.Proofs.Ytmnamkcjldaoeaa.PAll
namespace Go.Proofs.Ytmnamkcjldaoeaa.PAll
open Go.RowKit Go.Proofs.YtmnamkcjldaoeaaW.PrintWords Go.Proofs.YtmnamkcjldaoeaaW.PrintLast Go.Proofs.YtmnamkcjldaoeaaW.PrintMore
set_option linter.unusedVariables false
set_option linter.unusedSimpArgs false
def toG (x : S70) : S85 := ⟨x.f0, x.f1, x.f2, x.f3, x.f4⟩
theorem gameB_iff (n : Int) (g : S85) : gameB n g = true ↔ (0 ≤ g.f2 ∧ g.f2 ≤ 3000) ∧ (0 ≤ g.f3 ∧ g.f3 ≤ 3000) ∧ (0 ≤ g.f0 ∧ g.f0 < n) ∧ (0 ≤ g.f1 ∧ g.f1 < n) ∧ g.f0 ≠ g.f1 ∧ (g.f4 = true → g.f2 = 0 ∧ g.f3 = 0) := by
 unfold gameB
 cases h : g.f4 <;> simp [and_assoc]
end Go.Proofs.Ytmnamkcjldaoeaa.PAll
