/- Parts of the proof of leagueOrder_holds, in order: HLib -/
import Derived.Test.YtmnamkcjldaoeaaKOrder3
import Derived.Outline
import Derived.Lib.Hide
import Derived.Lib.SliceRun
namespace Go.Proofs.Ytmnamkcjldaoeaa.PAll
open Go.RowKit Go.Proofs.YtmnamkcjldaoeaaW.PrintWords Go.Proofs.YtmnamkcjldaoeaaW.PrintLast Go.Proofs.YtmnamkcjldaoeaaW.PrintMore
set_option linter.unusedVariables false
set_option linter.unusedSimpArgs false
def foldTo (f : Int → Int → Int) (l : List Int) : Nat → Int
 | 0 => l.headD 0
 | 1 => l.headD 0
 | k + 2 => f (foldTo f l (k + 1)) (l.getD (k + 1) 0)
theorem foldTo_succ (f : Int → Int → Int) (l : List Int) (k : Nat) (h : 1 ≤ k) : foldTo f l (k + 1) = f (foldTo f l k) (l.getD k 0) := by
 obtain ⟨j, rfl⟩ : ∃ j, k = j + 1 := ⟨k - 1, by omega⟩
 rfl
def maxF (l : List Int) : Int := foldTo mx l l.length
def minF (l : List Int) : Int := foldTo mn l l.length
theorem foldTo_one (f : Int → Int → Int) (l : List Int) : foldTo f l 1 = rd l 0 := by cases l <;> rfl
section
attribute [local go_sem] max2_int min2_int
set_option maxHeartbeats 1000000 in
theorem max_calls (A : Option Addr) (c : Nat) (l : List Int) (w : World) (hr : Kd.C (Kd.int .i64) w A l.length l) (hl : 1 ≤ l.length) :
  Calls Try.prog 100 #[.slice A l.length c] w fun e w' => e = .returned (.int .i64 (maxF l)) ∧ w = w' := by
 have HR := Aside0.mk hr
 have hm : l.length ≤ 9223372036854775807 := hr.2.1
 clear hr
 obtain ⟨ad, rfl, h0⟩ := Kd.at_int HR.out 0 (by omega) (by omega)
 rw [show Int.toNat 0 = 0 from rfl, Addr.add_zero'] at h0
 have H1 := Lib.hid (foldTo_one mx l)
 have hd : decide ((l.length : Int) < 1) = false := decide_eq_false (by omega)
 go_enter Try.func100, Try.ntmps100
 go_wp2
 go_loopw [3, 4] (fun u v wr => ∃ k : Nat, 1 ≤ k ∧ k ≤ l.length ∧ v = .int .i64 k ∧ u = .int .i64 (foldTo mx l k) ∧ Aside0 (w = wr)) (fun _ v _ => l.length - (intOf v).toNat)
 case atStart => exact ⟨1, by omega, hl, rfl, by rw [H1.out], ⟨rfl⟩⟩
 case round =>
  obtain ⟨k, h1, hk, rfl, rfl, ⟨rfl⟩⟩ := hrel
  by_cases hlt : k < l.length
  ·
   obtain ⟨ad', e', h3⟩ := Kd.at_int HR.out (k : Int) (by omega) (by omega)
   cases e'
   rw [Int.toNat_natCast] at h3
   have HS := Lib.hid (foldTo_succ mx l k h1)
   go_wp2
   go_roundw
   case rel => exact ⟨k + 1, by omega, by omega, by go_num, by rw [HS.out]; rfl, ⟨by simp⟩⟩
   case measure => simp [intOf]; omega
  ·
   obtain rfl : k = l.length := by omega
   go_wp2
   go_ret
   exact ⟨rfl, rfl⟩
end
section
attribute [local go_sem] max2_int min2_int
set_option maxHeartbeats 1000000 in
theorem min_calls (A : Option Addr) (c : Nat) (l : List Int) (w : World) (hr : Kd.C (Kd.int .i64) w A l.length l) (hl : 1 ≤ l.length) :
  Calls Try.prog 101 #[.slice A l.length c] w fun e w' => e = .returned (.int .i64 (minF l)) ∧ w = w' := by
 have HR := Aside0.mk hr
 have hm : l.length ≤ 9223372036854775807 := hr.2.1
 clear hr
 obtain ⟨ad, rfl, h0⟩ := Kd.at_int HR.out 0 (by omega) (by omega)
 rw [show Int.toNat 0 = 0 from rfl, Addr.add_zero'] at h0
 have H1 := Lib.hid (foldTo_one mn l)
 have hd : decide ((l.length : Int) < 1) = false := decide_eq_false (by omega)
 go_enter Try.func101, Try.ntmps101
 go_wp2
 go_loopw [3, 4] (fun u v wr => ∃ k : Nat, 1 ≤ k ∧ k ≤ l.length ∧ v = .int .i64 k ∧ u = .int .i64 (foldTo mn l k) ∧ Aside0 (w = wr)) (fun _ v _ => l.length - (intOf v).toNat)
 case atStart => exact ⟨1, by omega, hl, rfl, by rw [H1.out], ⟨rfl⟩⟩
 case round =>
  obtain ⟨k, h1, hk, rfl, rfl, ⟨rfl⟩⟩ := hrel
  by_cases hlt : k < l.length
  ·
   obtain ⟨ad', e', h3⟩ := Kd.at_int HR.out (k : Int) (by omega) (by omega)
   cases e'
   rw [Int.toNat_natCast] at h3
   have HS := Lib.hid (foldTo_succ mn l k h1)
   go_wp2
   go_roundw
   case rel => exact ⟨k + 1, by omega, by omega, by go_num, by rw [HS.out]; rfl, ⟨by simp⟩⟩
   case measure => simp [intOf]; omega
  ·
   obtain rfl : k = l.length := by omega
   go_wp2
   go_ret
   exact ⟨rfl, rfl⟩
end
theorem greatest_calls (A : Option Addr) (c : Nat) (l : List Int) (w : World) (hr : Kd.C (Kd.int .i64) w A l.length l) (hl : 1 ≤ l.length) :
  Calls Try.prog 86 #[.slice A l.length c] w fun e w' => e = .returned (.int .i64 (maxF l)) ∧ w = w' := by
 have HF := Lib.hid (max_calls A c l w hr hl)
 clear hr
 go_enter Try.func86, Try.ntmps86
 go_wp2_with (go_at_call 100; (with_reducible refine HF.out.mono ?_); rintro e w1 ⟨rfl, rfl⟩)
 go_ret
 exact ⟨rfl, rfl⟩
theorem R_new0 {α : Type} (d : Kd α) (e : Nat) (w : World) : d.R e (w.alloc (.cells #[] e)) w.heap.size (fun _ => True) (.slice (some ⟨w.heap.size, 0, none⟩) 0 0) [] :=
 ⟨fun _ _ => trivial, [], ⟨by simp, .inr ⟨w.heap.size, 0, #[], rfl, Nat.le_refl _, blk_new _ _, Nat.le_refl _, by simp, by simp, by simp⟩⟩, Reps.none _ _⟩
def kingpinlaw08_codes.f (l0 : List Int) : Option (List Int) := if l0.length ≤ 1000000 then some l0 else none
set_option maxHeartbeats 1000000 in
theorem kingpinlaw08_codes.calls (A0 : Option Addr) (c0 : Nat) (l0 : List Int) (r : List Int) (w : World) (hr0 : Kd.C (Kd.int .u8) w A0 l0.length l0) (hc0 : l0.length ≤ c0) (h : kingpinlaw08_codes.f l0 = some r) :
  Calls Try.prog 20 #[.slice A0 l0.length c0] w fun e w' => ∃ v0_ : Value, e = .returned (v0_) ∧ Kd.R (Kd.int .u8) 5 w' w.heap.size (fun _ => True) v0_ r ∧ Below w.heap.size w w' := by
 unfold kingpinlaw08_codes.f at h
 split at h
 case isFalse => cases h
 rename_i hl
 obtain rfl := Option.some.inj h
 clear h
 have HR := Aside0.mk hr0
 clear hr0 hc0
 go_enter Try.func20, Try.ntmps20
 go_wp2_with ((with_reducible refine gate_builtin (b := .append) (xs := #[.const (.slice none 0 0), .tmp 3]) rfl ?_); at_builtin; refine Kd.R_append_rows (Kd.int .u8) (w0 := w) w.heap.size rfl (.const (.slice none 0 0)) (.tmp 3) 25 5 (.int .u8 0) 1 rfl Try.underlying25 info5 rfl (by decide) (by decide) (.slice none 0 0) [] l0 A0 l0.length c0 (fun _ => True) (fun _ => False) rfl rfl (Kd.R_nil _ _ _ _ _) HR.out (fun x cs h => h) (fun _ h => h.elim) (fun _ _ => trivial) (Below.refl _ _) (Nat.le_refl _) ?hl ?_; (case hl => simp; omega); intro v1 w1 h1 h2 h3 h4)
 go_ret
 exact ⟨_, rfl, h1, h2⟩
set_option maxRecDepth 100000 in
set_option maxHeartbeats 1000000 in
theorem cloneI_calls (A : Option Addr) (c : Nat) (l : List Int) (w : World) (hr : Kd.C (Kd.int .i64) w A l.length l) (hl : l.length ≤ 1000000) :
  Calls Try.prog 62 #[.slice A l.length c] w fun e w' => ∃ v0_ : Value, e = .returned (v0_) ∧ Kd.R (Kd.int .i64) 3 w' w.heap.size (fun _ => True) v0_ l ∧ Below w.heap.size w w' := by
 have HR := Aside0.mk hr
 clear hr
 cases A with
 | none =>
  have h0 : l = [] := by
   rcases Nat.eq_zero_or_pos l.length with h | h
   ·
    exact List.eq_nil_of_length_eq_zero h
   ·
    obtain ⟨ad, e, _⟩ := HR.out.2.2 h
    cases e
  subst h0
  have HQ : ∀ W : World, (binOp .eql 34 (.slice none 0 c) (.slice none 0 0)).run Try.prog W = .ok (.bool true) W := fun W => Lib.run_eql_slice_nil (P := Try.prog) W 34 3 none 0 c 0 0 Try.underlying34
  go_enter Try.func62, Try.ntmps62
  go_wp2
  go_ret
  exact ⟨_, rfl, Kd.R_nil _ _ _ _ _, Below.refl _ _⟩
 | some ad =>
  have HQ : ∀ W : World, (binOp .eql 34 (.slice (some ad) l.length c) (.slice none 0 0)).run Try.prog W = .ok (.bool false) W := fun W => Lib.run_eql_slice_nil (P := Try.prog) W 34 3 (some ad) l.length c 0 0 Try.underlying34
  have HN := Aside0.mk (Kd.C_alloc HR.out (.cells #[] 3))
  go_enter Try.func62, Try.ntmps62
  go_wp2_with ((with_reducible refine gate_builtin (b := .append) (xs := #[.tmp 5, .tmp 6]) rfl ?_); at_builtin; refine Kd.R_append_rows (Kd.int .i64) (w0 := w) w.heap.size rfl (.tmp 5) (.tmp 6) 34 3 (.int .i64 0) 8 rfl Try.underlying34 info3 rfl (by decide) (by decide) (.slice (some ⟨w.heap.size, 0, none⟩) 0 0) [] l (some ad) l.length c (fun _ => True) (fun _ => False) rfl rfl (R_new0 _ _ _) HN.out (fun x cs h => h) (fun _ h => h.elim) (fun _ _ => trivial) (below_alloc (Below.refl _ _) _) (by simp) ?hl ?_; (case hl => simp; omega); intro v1 w1 h1 h2 h3 h4)
  go_ret
  exact ⟨_, rfl, h1, h2⟩
set_option maxRecDepth 100000 in
set_option maxHeartbeats 1000000 in
theorem cloneG_calls (A : Option Addr) (c : Nat) (l : List S85) (w : World) (hr : Kd.C k85 w A l.length l) (hl : l.length ≤ 1000000) :
  Calls Try.prog 93 #[.slice A l.length c] w fun e w' => ∃ v0_ : Value, e = .returned (v0_) ∧ Kd.R k85 85 w' w.heap.size (fun _ => True) v0_ l ∧ Below w.heap.size w w' := by
 have HR := Aside0.mk hr
 clear hr
 cases A with
 | none =>
  have h0 : l = [] := by
   rcases Nat.eq_zero_or_pos l.length with h | h
   ·
    exact List.eq_nil_of_length_eq_zero h
   ·
    obtain ⟨ad, e, _⟩ := HR.out.2.2 h
    cases e
  subst h0
  have HQ : ∀ W : World, (binOp .eql 30 (.slice none 0 c) (.slice none 0 0)).run Try.prog W = .ok (.bool true) W := fun W => Lib.run_eql_slice_nil (P := Try.prog) W 30 85 none 0 c 0 0 Try.underlying30
  go_enter Try.func93, Try.ntmps93
  go_wp2
  go_ret
  exact ⟨_, rfl, Kd.R_nil _ _ _ _ _, Below.refl _ _⟩
 | some ad =>
  have HQ : ∀ W : World, (binOp .eql 30 (.slice (some ad) l.length c) (.slice none 0 0)).run Try.prog W = .ok (.bool false) W := fun W => Lib.run_eql_slice_nil (P := Try.prog) W 30 85 (some ad) l.length c 0 0 Try.underlying30
  have HN := Aside0.mk (Kd.C_alloc HR.out (.cells #[] 85))
  go_enter Try.func93, Try.ntmps93
  go_wp2_with ((with_reducible refine gate_builtin (b := .append) (xs := #[.tmp 5, .tmp 6]) rfl ?_); at_builtin; refine Kd.R_append_rows k85 (w0 := w) w.heap.size rfl (.tmp 5) (.tmp 6) 30 85 (.agg #[(.int .i64 0), (.int .i64 0), (.int .i64 0), (.int .i64 0), (.bool false)]) 40 rfl Try.underlying30 info85 rfl (by decide) (by decide) (.slice (some ⟨w.heap.size, 0, none⟩) 0 0) [] l (some ad) l.length c (fun _ => True) (fun _ => False) rfl rfl (R_new0 _ _ _) HN.out (fun x cs h => h) (fun _ h => h.elim) (fun _ _ => trivial) (below_alloc (Below.refl _ _) _) (by simp) ?hl ?_; (case hl => simp; omega); intro v1 w1 h1 h2 h3 h4)
  go_ret
  exact ⟨_, rfl, h1, h2⟩
end Go.Proofs.Ytmnamkcjldaoeaa.PAll
