/- Parts of the proof of leagueOrder_holds, in order: HOrderW -/
import Derived.Test.YtmnamkcjldaoeaaKOrder3
import Derived.Test.YtmnamkcjldaoeaaKOrder18
import Derived.Deep.DeepCutAuto
import Derived.Deep.RegionHeld3
namespace Go.Proofs.Ytmnamkcjldaoeaa.PAll
open Go.RowKit Go.Proofs.YtmnamkcjldaoeaaW.PrintWords Go.Proofs.YtmnamkcjldaoeaaW.PrintLast Go.Proofs.YtmnamkcjldaoeaaW.PrintMore
set_option linter.unusedVariables false
set_option linter.unusedSimpArgs false
theorem set_rd70 (xs : List S70) (i : Nat) (hi : i < xs.length) : xs.set i (rd_T70 xs i) = xs := by
 refine List.ext_getElem? fun j => ?_
 by_cases e : j = i
 ·
  subst e
  rw [List.getElem?_set_self hi]
  unfold rd_T70
  rw [Int.toNat_natCast, List.getD_eq_getElem?_getD, List.getElem?_eq_getElem hi]
  rfl
 ·
  rw [List.getElem?_set_ne (fun h => e h.symm)]
theorem GamesAt.swap {w : World} {g : Nat} {xs : List S70} (h : GamesAt w g xs) (i : Nat) (hi : i < xs.length) (x : S70) (hx : rd_T70 xs (i : Int) = x) :
  GamesAt (((((w.setCell ⟨g, i * 5, none⟩ (.int .i64 x.f1)).setCell ⟨g, i * 5 + 1, none⟩ (.int .i64 x.f0)).setCell ⟨g, i * 5 + 2, none⟩ (.int .i64 x.f3)).setCell ⟨g, i * 5 + 3, none⟩ (.int .i64 x.f2)).setCell ⟨g, i * 5 + 4, none⟩ (.bool x.f4)) g (xs.set i (swapG x)) := by
 have h1 := h.set i 0 hi (by decide) ⟨x.f1, x.f1, x.f2, x.f3, x.f4⟩ (.int .i64 x.f1) rfl (fun k hk hne => by
  rw [hx]
  match k, hk with
  | 0, _ => exact absurd rfl hne
  | 1, _ | 2, _ | 3, _ | 4, _ => rfl)
 have h2 := h1.set i 1 (by rw [List.length_set]; exact hi) (by decide) ⟨x.f1, x.f0, x.f2, x.f3, x.f4⟩ (.int .i64 x.f0) rfl (fun k hk hne => by
  rw [rd_set70 xs i hi]
  match k, hk with
  | 1, _ => exact absurd rfl hne
  | 0, _ | 2, _ | 3, _ | 4, _ => rfl)
 rw [List.set_set] at h2
 have h3 := h2.set i 2 (by rw [List.length_set]; exact hi) (by decide) ⟨x.f1, x.f0, x.f3, x.f3, x.f4⟩ (.int .i64 x.f3) rfl (fun k hk hne => by
  rw [rd_set70 xs i hi]
  match k, hk with
  | 2, _ => exact absurd rfl hne
  | 0, _ | 1, _ | 3, _ | 4, _ => rfl)
 rw [List.set_set] at h3
 have h4 := h3.set i 3 (by rw [List.length_set]; exact hi) (by decide) (swapG x) (.int .i64 x.f2) rfl (fun k hk hne => by
  rw [rd_set70 xs i hi]
  match k, hk with
  | 3, _ => exact absurd rfl hne
  | 0, _ | 1, _ | 2, _ | 4, _ => rfl)
 rw [List.set_set] at h4
 have h5 := h4.set i 4 (by rw [List.length_set]; exact hi) (by decide) (swapG x) (.bool x.f4) rfl (fun k hk hne => by
  rw [rd_set70 xs i hi])
 rw [List.set_set] at h5
 exact h5
section
variable {P : Program} {ops : Array Oper} {Q : Exit → Act → World → Prop}
set_option maxRecDepth 100000 in
theorem store24_ {oi : Oper} {a : Act} {W : World} {K : Act → World → Prop} {bx : Nat} {c0 c1 x0 x1 : Value} (hw : Region.wanted oi (yielded ops a.tmps) = true) (hN : oi.dst = none) (p x : Tmp) (hop : oi.op = .store 24 (.tmp p) (.tmp x))
  (hp : a.eval (.tmp p) = .pointer (some ⟨bx, 0, none⟩)) (hx : a.eval (.tmp x) = .agg #[x0, x1]) (hh : W.heap[bx]? = some (.cells #[c0, c1] 24 (0, 0))) (h0 : x0.oneCell' = true) (h1 : x1.oneCell' = true)
  (h : K a ((W.setCell ⟨bx, 0, none⟩ x0).setCell ⟨bx, 1, none⟩ x1)) : if Region.wanted oi (yielded ops a.tmps) = true then Oper.wp Try.prog oi a W K Q else K (a.put none undef) W := by
 refine skip_ hw hN ?_ h
 have hrun := run_store_run (P := Try.prog) (o := 0) 24 (.agg #[x0, x1]) [x0, x1] hh rfl (by rfl) (by simp) (by simp [h0, h1])
 unfold execOp
 simp only [hop, hp, hx, Sem.run_bind, Sem.run_pure, Result.andThen_ok, hrun]
 rfl
end
theorem codes_calls' (rules : List Int) (hl : rules.length ≤ 6) (A : Option Addr) (c : Nat) (w : World) (hr : Kd.C (Kd.int .u8) w A rules.length rules) (hc : rules.length ≤ c) :
  Calls Try.prog 20 #[.slice A rules.length c] w fun e w' => ∃ A' c', e = .returned (.slice A' rules.length c') ∧ Kd.C (Kd.int .u8) w' A' rules.length rules ∧ rules.length ≤ c' ∧ Below w.heap.size w w' := by
 refine (kingpinlaw08_codes.calls A c rules rules w hr hc (by unfold kingpinlaw08_codes.f; rw [if_pos (by omega)])).mono ?_
 rintro e w' ⟨v, rfl, hR, hb⟩
 obtain ⟨A', c', rfl⟩ := Kd.R_slice hR
 exact ⟨A', c', rfl, (Kd.R_reads' hR).2.2, (Kd.R_reads' hR).2.1, hb⟩
theorem ints_calls' (xs : List Int) (hl : xs.length ≤ 1000000) (A : Option Addr) (c : Nat) (w : World) (hr : Kd.C (Kd.int .i64) w A xs.length xs) (hc : xs.length ≤ c) (A1 : Option Addr) (c1 : Nat) (hr1 : Kd.C (Kd.int .i64) w A1 xs.length xs) (hc1 : xs.length ≤ c1) :
  Calls Try.prog 23 #[.slice A xs.length c, .slice A1 xs.length c1] w fun e w' => e = .returned (.bool true) ∧ Below w.heap.size w w' := by
 obtain ⟨k, hk⟩ := (ints_self xs hl).rounds
 exact (kingpinlaw08_ints.calls k A c xs A1 c1 xs true w hr hc hr1 hc1 hk).mono fun e w' ⟨he, hd⟩ => ⟨he, hd.below⟩
theorem listed4_calls' (rules : List Int) (b : Bool) (hl : rules.length ≤ 6) (A : Option Addr) (c : Nat) (w : World) (hr : Kd.C (Kd.int .u8) w A rules.length rules) (hc : rules.length ≤ c) (hb : rules.all ruleB = b) :
  Calls Try.prog 22 #[.slice A rules.length c, .int .u8 4] w fun e w' => e = .returned (.bool b) ∧ Below w.heap.size w w' := by
 obtain ⟨k, hk⟩ := (listed_ev rules 4 (by omega)).rounds
 rw [show (rules.all fun x => decide (1 ≤ x) && decide (x ≤ 4)) = rules.all ruleB from rfl, hb] at hk
 exact (kingpinlaw08_listed.calls k A c rules 4 b w hr hc hk).mono fun e w' ⟨he, hd⟩ => ⟨he, hd.below⟩
set_option maxRecDepth 100000 in
set_option maxHeartbeats 4000000 in
theorem order_calls (a : Int) (A : Option Addr) (c : Nat) (l : List S70) (Ar : Option Addr) (cr : Nat) (rules : List Int) (by_ : Int) (w : World) (hr : Kd.C k70 w A l.length l) (hc : l.length ≤ c) (hrr : Kd.C (Kd.int .u8) w Ar rules.length rules) (hcr : rules.length ≤ cr) (hby : 0 ≤ by_ ∧ by_ ≤ 255) (hru : ∀ x ∈ rules, 0 ≤ x ∧ x ≤ 255) :
  Calls Try.prog 9 #[.agg #[.int .i64 a, .slice A l.length c], .slice Ar rules.length cr, .int .u8 by_] w fun e w' => e = .returned (.bool true) ∧ Below w.heap.size w w' := by
 have HR := Aside0.mk hr
 have HC := Aside0.mk hc
 have HRR := Aside0.mk hrr
 have HCR := Aside0.mk hcr
 have hm : l.length ≤ 9223372036854775807 := hr.2.1
 have hmr : rules.length ≤ 9223372036854775807 := hrr.2.1
 clear hr hc hrr hcr hru
 have HB := Aside0.mk (below_alloc (Below.refl w.heap.size w) (.cells #[.int .i64 a, .slice A l.length c] 24))
 have HG : Aside0 ((w.alloc (.cells #[.int .i64 a, .slice A l.length c] 24)).heap[w.heap.size]? = some (.cells #[.int .i64 a, .slice A l.length c] 24 (0, 0))) := ⟨blk_new _ _⟩
 cases hrd : readyB a l with
 | false =>
  have HRD := Lib.hid hrd
  clear hrd
  go_enter Try.func9, Try.ntmps9
  go_wp2_with (first
   | (go_at_call 34; (with_reducible refine (ready_calls' a _ _ l _ ?hr HC.out false HRD.out).mono ?_); (case hr => exact Kd.C_below HR.out HB.out); rintro e w1 ⟨rfl, hb1⟩; have n0_ := Aside0.mk (blk_below HG.out hb1); have n1_ := Aside0.mk (below_step HB.out hb1); clear HG HB; (try clear g0 g1); have HG := n0_; have HB := n1_; clear n0_ n1_; have g0 : w1.cell? ⟨w.heap.size, 0, none⟩ = some (.int .i64 a) := (blk_cell HG.out 0).trans rfl; have g1 : w1.cell? ⟨w.heap.size, 1, none⟩ = some (.slice A l.length c) := (blk_cell HG.out 1).trans rfl; clear hb1)
   | (go_at_call 16; (with_reducible refine (awake_calls' _).mono ?_); rintro e w1 ⟨rfl, hb1⟩; have n0_ := Aside0.mk (blk_below HG.out hb1); have n1_ := Aside0.mk (below_step HB.out hb1); clear HG HB; (try clear g0 g1); have HG := n0_; have HB := n1_; clear n0_ n1_; have g0 : w1.cell? ⟨w.heap.size, 0, none⟩ = some (.int .i64 a) := (blk_cell HG.out 0).trans rfl; have g1 : w1.cell? ⟨w.heap.size, 1, none⟩ = some (.slice A l.length c) := (blk_cell HG.out 1).trans rfl; clear hb1)
   | fail)
  go_ret
  exact ⟨rfl, HB.out⟩
 | true =>
  have HRD := Lib.hid hrd
  unfold readyB at hrd
  simp only [Bool.and_eq_true, decide_eq_true_eq] at hrd
  obtain ⟨h24, hck⟩ := hrd
  by_cases hr6 : rules.length ≤ 6
  rotate_left
  ·
   have b6 : decide ((rules.length : Int) > 6) = true := decide_eq_true (by omega)
   clear hck
   go_enter Try.func9, Try.ntmps9
   go_wp2_with (first
    | (go_at_call 34; (with_reducible refine (ready_calls' a _ _ l _ ?hr HC.out true HRD.out).mono ?_); (case hr => exact Kd.C_below HR.out HB.out); rintro e w1 ⟨rfl, hb1⟩; have n0_ := Aside0.mk (blk_below HG.out hb1); have n1_ := Aside0.mk (below_step HB.out hb1); clear HG HB; (try clear g0 g1); have HG := n0_; have HB := n1_; clear n0_ n1_; have g0 : w1.cell? ⟨w.heap.size, 0, none⟩ = some (.int .i64 a) := (blk_cell HG.out 0).trans rfl; have g1 : w1.cell? ⟨w.heap.size, 1, none⟩ = some (.slice A l.length c) := (blk_cell HG.out 1).trans rfl; clear hb1)
    | (go_at_call 16; (with_reducible refine (awake_calls' _).mono ?_); rintro e w1 ⟨rfl, hb1⟩; have n0_ := Aside0.mk (blk_below HG.out hb1); have n1_ := Aside0.mk (below_step HB.out hb1); clear HG HB; (try clear g0 g1); have HG := n0_; have HB := n1_; clear n0_ n1_; have g0 : w1.cell? ⟨w.heap.size, 0, none⟩ = some (.int .i64 a) := (blk_cell HG.out 0).trans rfl; have g1 : w1.cell? ⟨w.heap.size, 1, none⟩ = some (.slice A l.length c) := (blk_cell HG.out 1).trans rfl; clear hb1)
    | fail)
   go_ret
   exact ⟨rfl, HB.out⟩
  ·
   have b6 : decide ((rules.length : Int) > 6) = false := decide_eq_false (by omega)
   have hrl6 := hr6
   cases hlb : rules.all ruleB with
   | false =>
    have HLB := Lib.hid hlb
    clear hlb hck
    go_enter Try.func9, Try.ntmps9
    go_wp2_with (first
     | (go_at_call 34; (with_reducible refine (ready_calls' a _ _ l _ ?hr HC.out true HRD.out).mono ?_); (case hr => exact Kd.C_below HR.out HB.out); rintro e w1 ⟨rfl, hb1⟩; have n0_ := Aside0.mk (blk_below HG.out hb1); have n1_ := Aside0.mk (below_step HB.out hb1); clear HG HB; (try clear g0 g1); have HG := n0_; have HB := n1_; clear n0_ n1_; have g0 : w1.cell? ⟨w.heap.size, 0, none⟩ = some (.int .i64 a) := (blk_cell HG.out 0).trans rfl; have g1 : w1.cell? ⟨w.heap.size, 1, none⟩ = some (.slice A l.length c) := (blk_cell HG.out 1).trans rfl; clear hb1)
     | (go_at_call 22; (with_reducible refine (listed4_calls' rules _ hrl6 _ _ _ ?hr HCR.out HLB.out).mono ?_); (case hr => exact Kd.C_below HRR.out HB.out); rintro e w1 ⟨rfl, hb1⟩; have n0_ := Aside0.mk (blk_below HG.out hb1); have n1_ := Aside0.mk (below_step HB.out hb1); clear HG HB; (try clear g0 g1); have HG := n0_; have HB := n1_; clear n0_ n1_; have g0 : w1.cell? ⟨w.heap.size, 0, none⟩ = some (.int .i64 a) := (blk_cell HG.out 0).trans rfl; have g1 : w1.cell? ⟨w.heap.size, 1, none⟩ = some (.slice A l.length c) := (blk_cell HG.out 1).trans rfl; clear hb1)
     | (go_at_call 16; (with_reducible refine (awake_calls' _).mono ?_); rintro e w1 ⟨rfl, hb1⟩; have n0_ := Aside0.mk (blk_below HG.out hb1); have n1_ := Aside0.mk (below_step HB.out hb1); clear HG HB; (try clear g0 g1); have HG := n0_; have HB := n1_; clear n0_ n1_; have g0 : w1.cell? ⟨w.heap.size, 0, none⟩ = some (.int .i64 a) := (blk_cell HG.out 0).trans rfl; have g1 : w1.cell? ⟨w.heap.size, 1, none⟩ = some (.slice A l.length c) := (blk_cell HG.out 1).trans rfl; clear hb1)
     | fail)
    go_ret
    exact ⟨rfl, HB.out⟩
   | true =>
    have HLB := Lib.hid hlb
    clear hlb
    by_cases hl0 : l.length = 0
    ·
     have b0 : ((l.length : Int) == 0) = true := beq_iff_eq.2 (by omega)
     clear hck hl0
     go_enter Try.func9, Try.ntmps9
     go_wp2_with (first
      | (go_at_call 34; (with_reducible refine (ready_calls' a _ _ l _ ?hr HC.out true HRD.out).mono ?_); (case hr => exact Kd.C_below HR.out HB.out); rintro e w1 ⟨rfl, hb1⟩; have n0_ := Aside0.mk (blk_below HG.out hb1); have n1_ := Aside0.mk (below_step HB.out hb1); clear HG HB; (try clear g0 g1); have HG := n0_; have HB := n1_; clear n0_ n1_; have g0 : w1.cell? ⟨w.heap.size, 0, none⟩ = some (.int .i64 a) := (blk_cell HG.out 0).trans rfl; have g1 : w1.cell? ⟨w.heap.size, 1, none⟩ = some (.slice A l.length c) := (blk_cell HG.out 1).trans rfl; clear hb1)
      | (go_at_call 22; (with_reducible refine (listed4_calls' rules _ hrl6 _ _ _ ?hr HCR.out HLB.out).mono ?_); (case hr => exact Kd.C_below HRR.out HB.out); rintro e w1 ⟨rfl, hb1⟩; have n0_ := Aside0.mk (blk_below HG.out hb1); have n1_ := Aside0.mk (below_step HB.out hb1); clear HG HB; (try clear g0 g1); have HG := n0_; have HB := n1_; clear n0_ n1_; have g0 : w1.cell? ⟨w.heap.size, 0, none⟩ = some (.int .i64 a) := (blk_cell HG.out 0).trans rfl; have g1 : w1.cell? ⟨w.heap.size, 1, none⟩ = some (.slice A l.length c) := (blk_cell HG.out 1).trans rfl; clear hb1)
      | (go_at_call 16; (with_reducible refine (awake_calls' _).mono ?_); rintro e w1 ⟨rfl, hb1⟩; have n0_ := Aside0.mk (blk_below HG.out hb1); have n1_ := Aside0.mk (below_step HB.out hb1); clear HG HB; (try clear g0 g1); have HG := n0_; have HB := n1_; clear n0_ n1_; have g0 : w1.cell? ⟨w.heap.size, 0, none⟩ = some (.int .i64 a) := (blk_cell HG.out 0).trans rfl; have g1 : w1.cell? ⟨w.heap.size, 1, none⟩ = some (.slice A l.length c) := (blk_cell HG.out 1).trans rfl; clear hb1)
      | fail)
     go_ret
     exact ⟨rfl, HB.out⟩
    ·
     have b0 : ((l.length : Int) == 0) = false := beq_eq_false_iff_ne.2 (by omega)
     have HL := Lib.hid (show l.length ≤ 1000 by omega)
     have HCK := Lib.hid hck
     have hn2 := (check_ok hck).2.1
     have hn6 := (check_ok hck).2.2.1
     clear hck
     obtain ⟨kk, hkk⟩ : ∃ x, Int.tmod by_ (l.length : Int) = x := ⟨_, rfl⟩
     have hk0 : 0 ≤ kk := by rw [← hkk]; exact Int.tmod_nonneg _ hby.1
     have hkl : kk < l.length := by rw [← hkk]; exact Int.tmod_lt_of_pos by_ (by omega)
     obtain ⟨k, rfl⟩ : ∃ k : Nat, kk = k := ⟨kk.toNat, by omega⟩
     obtain ⟨m, hmm⟩ : ∃ x, Int.tmod by_ a = x := ⟨_, rfl⟩
     have hm0 : 0 ≤ m := by rw [← hmm]; exact Int.tmod_nonneg _ hby.1
     have hma : m < a := by rw [← hmm]; exact Int.tmod_lt_of_pos by_ (by omega)
     have hwb : IntKind.i64.wrap by_ = by_ := by unfold IntKind.wrap; simp [IntKind.bits, IntKind.signed]; omega
     have hne0 : (l.length : Int) ≠ 0 := by omega
     have hna0 : a ≠ 0 := by omega
     go_enter Try.func9, Try.ntmps9
     go_upto_region 3 with (first
      | (go_at_call 34; (with_reducible refine (ready_calls' a _ _ l _ ?hr HC.out true HRD.out).mono ?_); (case hr => exact Kd.C_below HR.out HB.out); rintro e w1 ⟨rfl, hb1⟩; have n0_ := Aside0.mk (blk_below HG.out hb1); have n1_ := Aside0.mk (below_step HB.out hb1); clear HG HB; (try clear g0 g1); have HG := n0_; have HB := n1_; clear n0_ n1_; have g0 : w1.cell? ⟨w.heap.size, 0, none⟩ = some (.int .i64 a) := (blk_cell HG.out 0).trans rfl; have g1 : w1.cell? ⟨w.heap.size, 1, none⟩ = some (.slice A l.length c) := (blk_cell HG.out 1).trans rfl; clear hb1)
      | (go_at_call 22; (with_reducible refine (listed4_calls' rules _ hrl6 _ _ _ ?hr HCR.out HLB.out).mono ?_); (case hr => exact Kd.C_below HRR.out HB.out); rintro e w1 ⟨rfl, hb1⟩; have n0_ := Aside0.mk (blk_below HG.out hb1); have n1_ := Aside0.mk (below_step HB.out hb1); clear HG HB; (try clear g0 g1); have HG := n0_; have HB := n1_; clear n0_ n1_; have g0 : w1.cell? ⟨w.heap.size, 0, none⟩ = some (.int .i64 a) := (blk_cell HG.out 0).trans rfl; have g1 : w1.cell? ⟨w.heap.size, 1, none⟩ = some (.slice A l.length c) := (blk_cell HG.out 1).trans rfl; clear hb1)
      | fail)
     go_quiet (fail)
     go_upto_region 4 with fail
     have hdr := pw_below_drewN (Below.refl w1.heap.size w1) nq
     obtain ⟨W4, hW4⟩ : ∃ W, W = w1.drewN nq := ⟨_, rfl⟩
     rw [← hW4] at hdr
     rw [← hW4]
     have HG4 := Aside0.mk (blk_below HG.out hdr)
     have HB4 := Aside0.mk (below_step HB.out hdr)
     clear hW4 hdr HG HB g0 g1
     have g0 : W4.cell? ⟨w.heap.size, 0, none⟩ = some (.int .i64 a) := (blk_cell HG4.out 0).trans rfl
     have g1 : W4.cell? ⟨w.heap.size, 1, none⟩ = some (.slice A l.length c) := (blk_cell HG4.out 1).trans rfl
     obtain ⟨ad, ead, _⟩ := at_T70 HR.out 0 (by omega) (by omega)
     cases ead
     have hlc : l.length ≤ c := HC.out
     have hk1 : k ≤ l.length := by omega
     have hk2 : k < l.length := by omega
     have hck : ¬ c = k := by omega
     have hk3 : k ≤ c := by omega
     have hck2 : ¬ c - k = 0 := by omega
     have hlt4 : w.heap.size < W4.heap.size := blk_lt HG4.out
     have hn4 : w.heap.size ≠ W4.heap.size := by omega
     obtain ⟨y0, hy0⟩ : ∃ y, y = l.drop k ++ l.take k := ⟨_, rfl⟩
     have HY0 := Lib.hid hy0
     clear hy0
     go_cut [9] (fun v9 wc => ∃ (bx : Nat) (Ax : Option Addr) (cx : Nat), v9 = .pointer (some ⟨bx, 0, none⟩) ∧ Aside0 (W4.heap.size ≤ bx) ∧ Aside0 (wc.heap[bx]? = some (.cells #[.int .i64 a, .slice Ax y0.length cx] 24 (0, 0))) ∧ Aside0 (Kd.R k70 70 wc W4.heap.size (fun _ => True) (.slice Ax y0.length cx) y0) ∧ Aside0 (Below W4.heap.size W4 wc))
     case first =>
      have HB0 := Aside0.mk (below_drew1 (Below.refl W4.heap.size W4))
      refine start_ (n := 16) (S := fun w' => w'.cell? ⟨w.heap.size, 0, none⟩ = some (.int .i64 a) ∧ w'.cell? ⟨w.heap.size, 1, none⟩ = some (.slice (some ad) l.length c)) (ds := []) #[false, false, false, false, false, false, false, false, false, false, false, false, false, false, false, false] (by kernel_rfl) rfl rfl ⟨g0, g1⟩ (fun hHeld => ?_)
      refine pure_ (i := 0) (N := some 57) (v := ?_) (a' := ?_) #[true, false, false, false, false, false, false, false, false, false, false, false, false, false, false, false] rfl rfl (by kernel_rfl) (fun _ _ _ h => h) (Or.inl ⟨by rfl, ?_⟩) ?_ ?_
      rotate_left
      ·
       intro w'
       go_simp
       with_reducible rfl
      rotate_left
      ·
       simp only [Act.put, List.setIfInBounds_toArray, List.set_cons_zero, List.set_cons_succ, i64_w, i32_w]
       rfl
      refine take_ (i := 1) (N := some 58) (v := ?_) (a' := ?_) #[true, true, false, false, false, false, false, false, false, false, false, false, false, false, false, false] rfl rfl (by kernel_rfl) (fun _ _ _ h => h) (Or.inl ⟨by rfl, ?_⟩) hHeld ?_ ?_
      rotate_left
      ·
       rintro w' ⟨s0, s1⟩
       go_simp
       with_reducible rfl
      rotate_left
      ·
       simp only [Act.put, List.setIfInBounds_toArray, List.set_cons_zero, List.set_cons_succ, i64_w, i32_w]
       rfl
      refine pure_ (i := 3) (N := some 60) (v := ?_) (a' := ?_) #[true, true, false, true, false, false, false, false, false, false, false, false, false, false, false, false] rfl rfl (by kernel_rfl) (fun _ _ _ h => h) (Or.inl ⟨by rfl, ?_⟩) ?_ ?_
      rotate_left
      ·
       intro w'
       go_simp
       with_reducible rfl
      rotate_left
      ·
       simp only [Act.put, List.setIfInBounds_toArray, List.set_cons_zero, List.set_cons_succ, i64_w, i32_w]
       rfl
      refine take_ (i := 4) (N := some 61) (v := ?_) (a' := ?_) #[true, true, false, true, true, false, false, false, false, false, false, false, false, false, false, false] rfl rfl (by kernel_rfl) (fun _ _ _ h => h) (Or.inl ⟨by rfl, ?_⟩) hHeld ?_ ?_
      rotate_left
      ·
       rintro w' ⟨s0, s1⟩
       go_simp
       with_reducible rfl
      rotate_left
      ·
       simp only [Act.put, List.setIfInBounds_toArray, List.set_cons_zero, List.set_cons_succ, i64_w, i32_w]
       rfl
      refine pure_ (i := 5) (N := some 62) (v := ?_) (a' := ?_) #[true, true, false, true, true, true, false, false, false, false, false, false, false, false, false, false] rfl rfl (by kernel_rfl) (fun _ _ _ h => h) (Or.inl ⟨by rfl, ?_⟩) ?_ ?_
      rotate_left
      ·
       intro w'
       go_simp
       with_reducible rfl
      rotate_left
      ·
       simp only [Act.put, List.setIfInBounds_toArray, List.set_cons_zero, List.set_cons_succ, i64_w, i32_w]
       rfl
      refine pure_ (i := 6) (N := some 63) (v := ?_) (a' := ?_) #[true, true, false, true, true, true, true, false, false, false, false, false, false, false, false, false] rfl rfl (by kernel_rfl) (fun _ _ _ h => h) (Or.inl ⟨by rfl, ?_⟩) ?_ ?_
      rotate_left
      ·
       intro w'
       go_simp
       with_reducible rfl
      rotate_left
      ·
       simp only [Act.put, List.setIfInBounds_toArray, List.set_cons_zero, List.set_cons_succ, i64_w, i32_w]
       rfl
      refine pure_ (i := 8) (N := some 65) (v := ?_) (a' := ?_) #[true, true, false, true, true, true, true, false, true, false, false, false, false, false, false, false] rfl rfl (by kernel_rfl) (fun _ _ _ h => h) (Or.inl ⟨by rfl, ?_⟩) ?_ ?_
      rotate_left
      ·
       intro w'
       go_simp
       with_reducible rfl
      rotate_left
      ·
       simp only [Act.put, List.setIfInBounds_toArray, List.set_cons_zero, List.set_cons_succ, i64_w, i32_w]
       rfl
      refine take_ (i := 9) (N := some 66) (v := ?_) (a' := ?_) #[true, true, false, true, true, true, true, false, true, true, false, false, false, false, false, false] rfl rfl (by kernel_rfl) (fun _ _ _ h => h) (Or.inl ⟨by rfl, ?_⟩) hHeld ?_ ?_
      rotate_left
      ·
       rintro w' ⟨s0, s1⟩
       go_simp
       with_reducible rfl
      rotate_left
      ·
       simp only [Act.put, List.setIfInBounds_toArray, List.set_cons_zero, List.set_cons_succ, i64_w, i32_w]
       rfl
      refine pure_ (i := 10) (N := some 67) (v := ?_) (a' := ?_) #[true, true, false, true, true, true, true, false, true, true, true, false, false, false, false, false] rfl rfl (by kernel_rfl) (fun _ _ _ h => h) (Or.inl ⟨by rfl, ?_⟩) ?_ ?_
      rotate_left
      ·
       intro w'
       go_simp
       with_reducible rfl
      rotate_left
      ·
       simp only [Act.put, List.setIfInBounds_toArray, List.set_cons_zero, List.set_cons_succ, i64_w, i32_w]
       rfl
      refine pure_ (i := 11) (N := some 68) (v := ?_) (a' := ?_) #[true, true, false, true, true, true, true, false, true, true, true, true, false, false, false, false] rfl rfl (by kernel_rfl) (fun _ _ _ h => h) (Or.inl ⟨by rfl, ?_⟩) ?_ ?_
      rotate_left
      ·
       intro w'
       go_simp
       with_reducible rfl
      rotate_left
      ·
       simp only [Act.put, List.setIfInBounds_toArray, List.set_cons_zero, List.set_cons_succ, i64_w, i32_w]
       rfl
      refine two_ (i := 2) (j := 14) (Ni := some 59) (Nj := some 9) #[true, true, true, true, true, true, true, false, true, true, true, true, false, false, false, false] #[true, true, false, true, true, true, true, false, true, true, true, true, false, false, true, false] rfl rfl rfl rfl (by kernel_rfl) (by decide) (by decide) (fun K hK => ?_) (fun K hK => ?_)
      ·
       refine value_ (w1 := (W4.drew).alloc (.cells #[] 70)) (v := .slice (some ⟨(W4.drew).heap.size, 0, none⟩) 0 0) (by rfl) rfl ?_ ?_
       ·
        go_simp
       have hR1 := Kd.R_lower (R_new0 k70 70 (W4.drew)) HB0.out.size
       have hB1 := below_alloc HB0.out (.cells #[] 70)
       obtain ⟨V1, hV1⟩ : ∃ V, V = (W4.drew).alloc (.cells #[] 70) := ⟨_, rfl⟩
       obtain ⟨v1, hv1⟩ : ∃ v, v = Value.slice (some ⟨(W4.drew).heap.size, 0, none⟩) 0 0 := ⟨_, rfl⟩
       rw [← hV1] at hB1
       rw [← hV1, ← hv1] at hR1
       rw [← hV1, ← hv1]
       clear hV1 hv1
       have HB1 := Aside0.mk hB1
       have HR1 := Aside0.mk hR1
       clear hB1 hR1
       refine hK.out _ _ ⟨(HB1.out.cell hlt4).trans g0, (HB1.out.cell hlt4).trans g1⟩ (fun hHeld => ?_)
       clear hK K
       refine norm_ (a' := ?_) ?_ ?_
       rotate_left
       ·
        show Act.put _ (some 59) _ = _
        simp only [Act.put, List.setIfInBounds_toArray, List.set_cons_zero, List.set_cons_succ, i64_w, i32_w]
        rfl
       refine two_ (i := 7) (j := 14) (Ni := some 64) (Nj := some 9) #[true, true, true, true, true, true, true, true, true, true, true, true, false, false, false, false] #[true, true, true, true, true, true, true, false, true, true, true, true, false, false, true, false] rfl rfl rfl rfl (by kernel_rfl) (by decide) (by decide) (fun K hK => ?_) (fun K hK => ?_)
       ·
        refine Kd.R_append_rows_step k70 (w0 := W4) W4.heap.size (by rfl) (.tmp 59) (.tmp 63) 22 70 (.agg #[(.int .i64 0), (.int .i64 0), (.int .i64 0), (.int .i64 0), (.bool false)]) 40 rfl Try.underlying22 info70 rfl (by decide) (by decide) v1 ([] : List S70) (l.drop k) (some (ad.add (k * 5))) (l.length - k) (c - k) (fun _ => True) (fun _ => False) rfl rfl HR1.out (by have := Kd.C_drop (k := k70) (c := c) (Kd.C_below HR.out (below_step HB4.out HB1.out)) hk1 hlc; rw [if_neg hck, List.length_drop] at this; exact this) (fun x cs h => h) (fun _ h => h.elim) (fun _ _ => trivial) HB1.out HB1.out.size (by simp; omega) ?_
        intro v2 V2 hR2 hB2 hg2 hat2
        rw [List.nil_append] at hR2
        clear hg2 hat2
        have HB2 := Aside0.mk hB2
        have HR2 := Aside0.mk hR2
        clear hB2 hR2
        refine hK.out _ _ ⟨(HB2.out.cell hlt4).trans g0, (HB2.out.cell hlt4).trans g1⟩ (fun hHeld => ?_)
        clear hK K
        refine norm_ (a' := ?_) ?_ ?_
        rotate_left
        ·
         show Act.put _ (some 64) _ = _
         simp only [Act.put, List.setIfInBounds_toArray, List.set_cons_zero, List.set_cons_succ, i64_w, i32_w]
         rfl
        refine two_ (i := 12) (j := 14) (Ni := some 69) (Nj := some 9) #[true, true, true, true, true, true, true, true, true, true, true, true, true, false, false, false] #[true, true, true, true, true, true, true, true, true, true, true, true, false, false, true, false] rfl rfl rfl rfl (by kernel_rfl) (by decide) (by decide) (fun K hK => ?_) (fun K hK => ?_)
        ·
         refine Kd.R_append_rows_step k70 (w0 := W4) W4.heap.size (by rfl) (.tmp 64) (.tmp 68) 22 70 (.agg #[(.int .i64 0), (.int .i64 0), (.int .i64 0), (.int .i64 0), (.bool false)]) 40 rfl Try.underlying22 info70 rfl (by decide) (by decide) v2 (l.drop k) (l.take k) (some ad) k c (fun _ => True) (fun _ => False) rfl rfl HR2.out (by have := Kd.C_take (k := k70) (Kd.C_below HR.out (below_step HB4.out HB2.out)) hk1; rw [List.length_take, Nat.min_eq_left hk1] at this; exact this) (fun x cs h => h) (fun _ h => h.elim) (fun _ _ => trivial) HB2.out HB2.out.size (by simp; omega) ?_
         intro v3 V3 hR3 hB3 hg3 hat3
         rw [← HY0.out] at hR3
         clear hg3 hat3
         obtain ⟨Ax, cx, rfl⟩ := Kd.R_slice hR3
         have HB3 := Aside0.mk hB3
         have HR3 := Aside0.mk hR3
         clear hB3 hR3
         refine hK.out _ _ ⟨(HB3.out.cell hlt4).trans g0, (HB3.out.cell hlt4).trans g1⟩ (fun hHeld => ?_)
         clear hK K
         refine norm_ (a' := ?_) ?_ ?_
         rotate_left
         ·
          show Act.put _ (some 69) _ = _
          simp only [Act.put, List.setIfInBounds_toArray, List.set_cons_zero, List.set_cons_succ, i64_w, i32_w]
          rfl
         refine pure_ (i := 13) (N := some 70) (v := ?_) (a' := ?_) #[true, true, true, true, true, true, true, true, true, true, true, true, true, true, false, false] rfl rfl (by kernel_rfl) (fun _ _ _ h => h) (Or.inl ⟨by rfl, ?_⟩) ?_ ?_
         rotate_left
         ·
          intro w'
          go_simp
          with_reducible rfl
         rotate_left
         ·
          simp only [Act.put, List.setIfInBounds_toArray, List.set_cons_zero, List.set_cons_succ, i64_w, i32_w]
          rfl
         refine one_ (i := 14) (N := some 9) #[true, true, true, true, true, true, true, true, true, true, true, true, true, true, true, false] rfl rfl (by kernel_rfl) (by decide) (fun K hK => ?_)
         refine value_ (w1 := (V3).alloc (.cells #[.int .i64 0, .slice none 0 0] 24)) (v := .pointer (some ⟨(V3).heap.size, 0, none⟩)) (by rfl) rfl ?_ ?_
         ·
          go_simp
         have hR4 := Kd.R_alloc HR3.out (.cells #[.int .i64 0, .slice none 0 0] 24)
         have hB4 := below_alloc HB3.out (.cells #[.int .i64 0, .slice none 0 0] 24)
         have hX4 := blk_new (V3) (.cells #[.int .i64 0, .slice none 0 0] 24)
         have hbq := HB3.out.size
         obtain ⟨V4, hV4⟩ : ∃ V, V = (V3).alloc (.cells #[.int .i64 0, .slice none 0 0] 24) := ⟨_, rfl⟩
         obtain ⟨bx, hbx⟩ : ∃ b, b = (V3).heap.size := ⟨_, rfl⟩
         rw [← hV4] at hB4 hR4
         rw [← hV4, ← hbx] at hX4
         rw [← hbx] at hbq
         rw [← hV4, ← hbx]
         have HBQ := Aside0.mk hbq
         clear hV4 hbx hbq
         have HB4 := Aside0.mk hB4
         have HR4 := Aside0.mk hR4
         have HX4 : Aside0 (V4.heap[bx]? = some (.cells #[.int .i64 0, .slice none 0 0] 24 (0, 0))) := ⟨hX4⟩
         clear hB4 hR4 hX4
         refine hK.out _ _ ⟨(HB4.out.cell hlt4).trans g0, (HB4.out.cell hlt4).trans g1⟩ (fun hHeld => ?_)
         clear hK K
         refine norm_ (a' := ?_) ?_ ?_
         rotate_left
         ·
          show Act.put _ (some 9) _ = _
          simp only [Act.put, List.setIfInBounds_toArray, List.set_cons_zero, List.set_cons_succ, i64_w, i32_w]
          rfl
         refine one_ (i := 15) (N := none) #[true, true, true, true, true, true, true, true, true, true, true, true, true, true, true, true] rfl rfl (by kernel_rfl) (by decide) (fun K hK => ?_)
         refine store24_ (bx := bx) (c0 := .int .i64 0) (c1 := .slice none 0 0) (x0 := .int .i64 a) (x1 := .slice Ax y0.length cx) (by rfl) rfl 9 70 rfl rfl rfl HX4.out rfl rfl ?_
         have HB5 : Aside0 (Below W4.heap.size W4 ((V4.setCell ⟨bx, 0, none⟩ (.int .i64 a)).setCell ⟨bx, 1, none⟩ (.slice Ax y0.length cx))) := ⟨(HB4.out.setCell HBQ.out _).setCell HBQ.out _⟩
         have HX0_ := blk_put HX4.out 0 (.int .i64 a) (cs' := #[.int .i64 a, .slice none 0 0]) rfl
         have HX5 := Aside0.mk (blk_put HX0_ 1 (.slice Ax y0.length cx) (cs' := #[.int .i64 a, .slice Ax y0.length cx]) rfl)
         have HR5 := Aside0.mk (Kd.R_set (Kd.R_set HR4.out HX4.out (by decide) 0 (.int .i64 a)) HX0_ (by decide) 1 (.slice Ax y0.length cx))
         clear HX0_
         refine hK.out _ _ ⟨(HB5.out.cell hlt4).trans g0, (HB5.out.cell hlt4).trans g1⟩ (fun hHeld => ?_)
         clear hK K
         refine done_ (by kernel_rfl) ?_
         try go_wp2
         go_meet
         exact ⟨bx, Ax, cx, rfl, HBQ, HX5, HR5, HB5⟩
        ·
         refine value_ (w1 := (V2).alloc (.cells #[.int .i64 0, .slice none 0 0] 24)) (v := .pointer (some ⟨(V2).heap.size, 0, none⟩)) (by rfl) rfl ?_ ?_
         ·
          go_simp
         have hR6 := Kd.R_alloc HR2.out (.cells #[.int .i64 0, .slice none 0 0] 24)
         have hB6 := below_alloc HB2.out (.cells #[.int .i64 0, .slice none 0 0] 24)
         have hX6 := blk_new (V2) (.cells #[.int .i64 0, .slice none 0 0] 24)
         have hbq := HB2.out.size
         obtain ⟨V6, hV6⟩ : ∃ V, V = (V2).alloc (.cells #[.int .i64 0, .slice none 0 0] 24) := ⟨_, rfl⟩
         obtain ⟨bx, hbx⟩ : ∃ b, b = (V2).heap.size := ⟨_, rfl⟩
         rw [← hV6] at hB6 hR6
         rw [← hV6, ← hbx] at hX6
         rw [← hbx] at hbq
         rw [← hV6, ← hbx]
         have HBQ := Aside0.mk hbq
         clear hV6 hbx hbq
         have HB6 := Aside0.mk hB6
         have HR6 := Aside0.mk hR6
         have HX6 : Aside0 (V6.heap[bx]? = some (.cells #[.int .i64 0, .slice none 0 0] 24 (0, 0))) := ⟨hX6⟩
         clear hB6 hR6 hX6
         refine hK.out _ _ ⟨(HB6.out.cell hlt4).trans g0, (HB6.out.cell hlt4).trans g1⟩ (fun hHeld => ?_)
         clear hK K
         refine norm_ (a' := ?_) ?_ ?_
         rotate_left
         ·
          show Act.put _ (some 9) _ = _
          simp only [Act.put, List.setIfInBounds_toArray, List.set_cons_zero, List.set_cons_succ, i64_w, i32_w]
          rfl
         refine one_ (i := 12) (N := some 69) #[true, true, true, true, true, true, true, true, true, true, true, true, true, false, true, false] rfl rfl (by kernel_rfl) (by decide) (fun K hK => ?_)
         refine Kd.R_append_rows_step k70 (w0 := W4) W4.heap.size (by rfl) (.tmp 64) (.tmp 68) 22 70 (.agg #[(.int .i64 0), (.int .i64 0), (.int .i64 0), (.int .i64 0), (.bool false)]) 40 rfl Try.underlying22 info70 rfl (by decide) (by decide) v2 (l.drop k) (l.take k) (some ad) k c (fun _ => True) (fun _ => False) rfl rfl HR6.out (by have := Kd.C_take (k := k70) (Kd.C_below HR.out (below_step HB4.out HB6.out)) hk1; rw [List.length_take, Nat.min_eq_left hk1] at this; exact this) (fun x cs h => h) (fun _ h => h.elim) (fun _ _ => trivial) HB6.out HB6.out.size (by simp; omega) ?_
         intro v7 V7 hR7 hB7 hg7 hat7
         rw [← HY0.out] at hR7
         have hX7 := (hg7.block bx (blk_lt HX6.out) (Kd.R_ne HR6.out HX6.out (by decide))).trans HX6.out
         clear hg7 hat7
         obtain ⟨Ax, cx, rfl⟩ := Kd.R_slice hR7
         have HB7 := Aside0.mk hB7
         have HR7 := Aside0.mk hR7
         have HX7 : Aside0 (V7.heap[bx]? = some (.cells #[.int .i64 0, .slice none 0 0] 24 (0, 0))) := ⟨hX7⟩
         clear hB7 hR7 hX7
         refine hK.out _ _ ⟨(HB7.out.cell hlt4).trans g0, (HB7.out.cell hlt4).trans g1⟩ (fun hHeld => ?_)
         clear hK K
         refine norm_ (a' := ?_) ?_ ?_
         rotate_left
         ·
          show Act.put _ (some 69) _ = _
          simp only [Act.put, List.setIfInBounds_toArray, List.set_cons_zero, List.set_cons_succ, i64_w, i32_w]
          rfl
         refine pure_ (i := 13) (N := some 70) (v := ?_) (a' := ?_) #[true, true, true, true, true, true, true, true, true, true, true, true, true, true, true, false] rfl rfl (by kernel_rfl) (fun _ _ _ h => h) (Or.inl ⟨by rfl, ?_⟩) ?_ ?_
         rotate_left
         ·
          intro w'
          go_simp
          with_reducible rfl
         rotate_left
         ·
          simp only [Act.put, List.setIfInBounds_toArray, List.set_cons_zero, List.set_cons_succ, i64_w, i32_w]
          rfl
         refine one_ (i := 15) (N := none) #[true, true, true, true, true, true, true, true, true, true, true, true, true, true, true, true] rfl rfl (by kernel_rfl) (by decide) (fun K hK => ?_)
         refine store24_ (bx := bx) (c0 := .int .i64 0) (c1 := .slice none 0 0) (x0 := .int .i64 a) (x1 := .slice Ax y0.length cx) (by rfl) rfl 9 70 rfl rfl rfl HX7.out rfl rfl ?_
         have HB8 : Aside0 (Below W4.heap.size W4 ((V7.setCell ⟨bx, 0, none⟩ (.int .i64 a)).setCell ⟨bx, 1, none⟩ (.slice Ax y0.length cx))) := ⟨(HB7.out.setCell HBQ.out _).setCell HBQ.out _⟩
         have HX0_ := blk_put HX7.out 0 (.int .i64 a) (cs' := #[.int .i64 a, .slice none 0 0]) rfl
         have HX8 := Aside0.mk (blk_put HX0_ 1 (.slice Ax y0.length cx) (cs' := #[.int .i64 a, .slice Ax y0.length cx]) rfl)
         have HR8 := Aside0.mk (Kd.R_set (Kd.R_set HR7.out HX7.out (by decide) 0 (.int .i64 a)) HX0_ (by decide) 1 (.slice Ax y0.length cx))
         clear HX0_
         refine hK.out _ _ ⟨(HB8.out.cell hlt4).trans g0, (HB8.out.cell hlt4).trans g1⟩ (fun hHeld => ?_)
         clear hK K
         refine done_ (by kernel_rfl) ?_
         try go_wp2
         go_meet
         exact ⟨bx, Ax, cx, rfl, HBQ, HX8, HR8, HB8⟩
       ·
        refine value_ (w1 := (V1).alloc (.cells #[.int .i64 0, .slice none 0 0] 24)) (v := .pointer (some ⟨(V1).heap.size, 0, none⟩)) (by rfl) rfl ?_ ?_
        ·
         go_simp
        have hR9 := Kd.R_alloc HR1.out (.cells #[.int .i64 0, .slice none 0 0] 24)
        have hB9 := below_alloc HB1.out (.cells #[.int .i64 0, .slice none 0 0] 24)
        have hX9 := blk_new (V1) (.cells #[.int .i64 0, .slice none 0 0] 24)
        have hbq := HB1.out.size
        obtain ⟨V9, hV9⟩ : ∃ V, V = (V1).alloc (.cells #[.int .i64 0, .slice none 0 0] 24) := ⟨_, rfl⟩
        obtain ⟨bx, hbx⟩ : ∃ b, b = (V1).heap.size := ⟨_, rfl⟩
        rw [← hV9] at hB9 hR9
        rw [← hV9, ← hbx] at hX9
        rw [← hbx] at hbq
        rw [← hV9, ← hbx]
        have HBQ := Aside0.mk hbq
        clear hV9 hbx hbq
        have HB9 := Aside0.mk hB9
        have HR9 := Aside0.mk hR9
        have HX9 : Aside0 (V9.heap[bx]? = some (.cells #[.int .i64 0, .slice none 0 0] 24 (0, 0))) := ⟨hX9⟩
        clear hB9 hR9 hX9
        refine hK.out _ _ ⟨(HB9.out.cell hlt4).trans g0, (HB9.out.cell hlt4).trans g1⟩ (fun hHeld => ?_)
        clear hK K
        refine norm_ (a' := ?_) ?_ ?_
        rotate_left
        ·
         show Act.put _ (some 9) _ = _
         simp only [Act.put, List.setIfInBounds_toArray, List.set_cons_zero, List.set_cons_succ, i64_w, i32_w]
         rfl
        refine one_ (i := 7) (N := some 64) #[true, true, true, true, true, true, true, true, true, true, true, true, false, false, true, false] rfl rfl (by kernel_rfl) (by decide) (fun K hK => ?_)
        refine Kd.R_append_rows_step k70 (w0 := W4) W4.heap.size (by rfl) (.tmp 59) (.tmp 63) 22 70 (.agg #[(.int .i64 0), (.int .i64 0), (.int .i64 0), (.int .i64 0), (.bool false)]) 40 rfl Try.underlying22 info70 rfl (by decide) (by decide) v1 ([] : List S70) (l.drop k) (some (ad.add (k * 5))) (l.length - k) (c - k) (fun _ => True) (fun _ => False) rfl rfl HR9.out (by have := Kd.C_drop (k := k70) (c := c) (Kd.C_below HR.out (below_step HB4.out HB9.out)) hk1 hlc; rw [if_neg hck, List.length_drop] at this; exact this) (fun x cs h => h) (fun _ h => h.elim) (fun _ _ => trivial) HB9.out HB9.out.size (by simp; omega) ?_
        intro v10 V10 hR10 hB10 hg10 hat10
        rw [List.nil_append] at hR10
        have hX10 := (hg10.block bx (blk_lt HX9.out) (Kd.R_ne HR9.out HX9.out (by decide))).trans HX9.out
        clear hg10 hat10
        have HB10 := Aside0.mk hB10
        have HR10 := Aside0.mk hR10
        have HX10 : Aside0 (V10.heap[bx]? = some (.cells #[.int .i64 0, .slice none 0 0] 24 (0, 0))) := ⟨hX10⟩
        clear hB10 hR10 hX10
        refine hK.out _ _ ⟨(HB10.out.cell hlt4).trans g0, (HB10.out.cell hlt4).trans g1⟩ (fun hHeld => ?_)
        clear hK K
        refine norm_ (a' := ?_) ?_ ?_
        rotate_left
        ·
         show Act.put _ (some 64) _ = _
         simp only [Act.put, List.setIfInBounds_toArray, List.set_cons_zero, List.set_cons_succ, i64_w, i32_w]
         rfl
        refine one_ (i := 12) (N := some 69) #[true, true, true, true, true, true, true, true, true, true, true, true, true, false, true, false] rfl rfl (by kernel_rfl) (by decide) (fun K hK => ?_)
        refine Kd.R_append_rows_step k70 (w0 := W4) W4.heap.size (by rfl) (.tmp 64) (.tmp 68) 22 70 (.agg #[(.int .i64 0), (.int .i64 0), (.int .i64 0), (.int .i64 0), (.bool false)]) 40 rfl Try.underlying22 info70 rfl (by decide) (by decide) v10 (l.drop k) (l.take k) (some ad) k c (fun _ => True) (fun _ => False) rfl rfl HR10.out (by have := Kd.C_take (k := k70) (Kd.C_below HR.out (below_step HB4.out HB10.out)) hk1; rw [List.length_take, Nat.min_eq_left hk1] at this; exact this) (fun x cs h => h) (fun _ h => h.elim) (fun _ _ => trivial) HB10.out HB10.out.size (by simp; omega) ?_
        intro v11 V11 hR11 hB11 hg11 hat11
        rw [← HY0.out] at hR11
        have hX11 := (hg11.block bx (blk_lt HX10.out) (Kd.R_ne HR10.out HX10.out (by decide))).trans HX10.out
        clear hg11 hat11
        obtain ⟨Ax, cx, rfl⟩ := Kd.R_slice hR11
        have HB11 := Aside0.mk hB11
        have HR11 := Aside0.mk hR11
        have HX11 : Aside0 (V11.heap[bx]? = some (.cells #[.int .i64 0, .slice none 0 0] 24 (0, 0))) := ⟨hX11⟩
        clear hB11 hR11 hX11
        refine hK.out _ _ ⟨(HB11.out.cell hlt4).trans g0, (HB11.out.cell hlt4).trans g1⟩ (fun hHeld => ?_)
        clear hK K
        refine norm_ (a' := ?_) ?_ ?_
        rotate_left
        ·
         show Act.put _ (some 69) _ = _
         simp only [Act.put, List.setIfInBounds_toArray, List.set_cons_zero, List.set_cons_succ, i64_w, i32_w]
         rfl
        refine pure_ (i := 13) (N := some 70) (v := ?_) (a' := ?_) #[true, true, true, true, true, true, true, true, true, true, true, true, true, true, true, false] rfl rfl (by kernel_rfl) (fun _ _ _ h => h) (Or.inl ⟨by rfl, ?_⟩) ?_ ?_
        rotate_left
        ·
         intro w'
         go_simp
         with_reducible rfl
        rotate_left
        ·
         simp only [Act.put, List.setIfInBounds_toArray, List.set_cons_zero, List.set_cons_succ, i64_w, i32_w]
         rfl
        refine one_ (i := 15) (N := none) #[true, true, true, true, true, true, true, true, true, true, true, true, true, true, true, true] rfl rfl (by kernel_rfl) (by decide) (fun K hK => ?_)
        refine store24_ (bx := bx) (c0 := .int .i64 0) (c1 := .slice none 0 0) (x0 := .int .i64 a) (x1 := .slice Ax y0.length cx) (by rfl) rfl 9 70 rfl rfl rfl HX11.out rfl rfl ?_
        have HB12 : Aside0 (Below W4.heap.size W4 ((V11.setCell ⟨bx, 0, none⟩ (.int .i64 a)).setCell ⟨bx, 1, none⟩ (.slice Ax y0.length cx))) := ⟨(HB11.out.setCell HBQ.out _).setCell HBQ.out _⟩
        have HX0_ := blk_put HX11.out 0 (.int .i64 a) (cs' := #[.int .i64 a, .slice none 0 0]) rfl
        have HX12 := Aside0.mk (blk_put HX0_ 1 (.slice Ax y0.length cx) (cs' := #[.int .i64 a, .slice Ax y0.length cx]) rfl)
        have HR12 := Aside0.mk (Kd.R_set (Kd.R_set HR11.out HX11.out (by decide) 0 (.int .i64 a)) HX0_ (by decide) 1 (.slice Ax y0.length cx))
        clear HX0_
        refine hK.out _ _ ⟨(HB12.out.cell hlt4).trans g0, (HB12.out.cell hlt4).trans g1⟩ (fun hHeld => ?_)
        clear hK K
        refine done_ (by kernel_rfl) ?_
        try go_wp2
        go_meet
        exact ⟨bx, Ax, cx, rfl, HBQ, HX12, HR12, HB12⟩
      ·
       refine value_ (w1 := (W4.drew).alloc (.cells #[.int .i64 0, .slice none 0 0] 24)) (v := .pointer (some ⟨(W4.drew).heap.size, 0, none⟩)) (by rfl) rfl ?_ ?_
       ·
        go_simp
       have hB13 := below_alloc HB0.out (.cells #[.int .i64 0, .slice none 0 0] 24)
       have hX13 := blk_new (W4.drew) (.cells #[.int .i64 0, .slice none 0 0] 24)
       have hbq := HB0.out.size
       obtain ⟨V13, hV13⟩ : ∃ V, V = (W4.drew).alloc (.cells #[.int .i64 0, .slice none 0 0] 24) := ⟨_, rfl⟩
       obtain ⟨bx, hbx⟩ : ∃ b, b = (W4.drew).heap.size := ⟨_, rfl⟩
       rw [← hV13] at hB13
       rw [← hV13, ← hbx] at hX13
       rw [← hbx] at hbq
       rw [← hV13, ← hbx]
       have HBQ := Aside0.mk hbq
       clear hV13 hbx hbq
       have HB13 := Aside0.mk hB13
       have HX13 : Aside0 (V13.heap[bx]? = some (.cells #[.int .i64 0, .slice none 0 0] 24 (0, 0))) := ⟨hX13⟩
       clear hB13 hX13
       refine hK.out _ _ ⟨(HB13.out.cell hlt4).trans g0, (HB13.out.cell hlt4).trans g1⟩ (fun hHeld => ?_)
       clear hK K
       refine norm_ (a' := ?_) ?_ ?_
       rotate_left
       ·
        show Act.put _ (some 9) _ = _
        simp only [Act.put, List.setIfInBounds_toArray, List.set_cons_zero, List.set_cons_succ, i64_w, i32_w]
        rfl
       refine one_ (i := 2) (N := some 59) #[true, true, true, true, true, true, true, false, true, true, true, true, false, false, true, false] rfl rfl (by kernel_rfl) (by decide) (fun K hK => ?_)
       refine value_ (w1 := (V13).alloc (.cells #[] 70)) (v := .slice (some ⟨(V13).heap.size, 0, none⟩) 0 0) (by rfl) rfl ?_ ?_
       ·
        go_simp
       have hR14 := Kd.R_lower (R_new0 k70 70 (V13)) HB13.out.size
       have hB14 := below_alloc HB13.out (.cells #[] 70)
       have hX14 := blk_alloc HX13.out (.cells #[] 70)
       obtain ⟨V14, hV14⟩ : ∃ V, V = (V13).alloc (.cells #[] 70) := ⟨_, rfl⟩
       obtain ⟨v14, hv14⟩ : ∃ v, v = Value.slice (some ⟨(V13).heap.size, 0, none⟩) 0 0 := ⟨_, rfl⟩
       rw [← hV14] at hB14 hX14
       rw [← hV14, ← hv14] at hR14
       rw [← hV14, ← hv14]
       clear hV14 hv14
       have HB14 := Aside0.mk hB14
       have HR14 := Aside0.mk hR14
       have HX14 : Aside0 (V14.heap[bx]? = some (.cells #[.int .i64 0, .slice none 0 0] 24 (0, 0))) := ⟨hX14⟩
       clear hB14 hR14 hX14
       refine hK.out _ _ ⟨(HB14.out.cell hlt4).trans g0, (HB14.out.cell hlt4).trans g1⟩ (fun hHeld => ?_)
       clear hK K
       refine norm_ (a' := ?_) ?_ ?_
       rotate_left
       ·
        show Act.put _ (some 59) _ = _
        simp only [Act.put, List.setIfInBounds_toArray, List.set_cons_zero, List.set_cons_succ, i64_w, i32_w]
        rfl
       refine one_ (i := 7) (N := some 64) #[true, true, true, true, true, true, true, true, true, true, true, true, false, false, true, false] rfl rfl (by kernel_rfl) (by decide) (fun K hK => ?_)
       refine Kd.R_append_rows_step k70 (w0 := W4) W4.heap.size (by rfl) (.tmp 59) (.tmp 63) 22 70 (.agg #[(.int .i64 0), (.int .i64 0), (.int .i64 0), (.int .i64 0), (.bool false)]) 40 rfl Try.underlying22 info70 rfl (by decide) (by decide) v14 ([] : List S70) (l.drop k) (some (ad.add (k * 5))) (l.length - k) (c - k) (fun _ => True) (fun _ => False) rfl rfl HR14.out (by have := Kd.C_drop (k := k70) (c := c) (Kd.C_below HR.out (below_step HB4.out HB14.out)) hk1 hlc; rw [if_neg hck, List.length_drop] at this; exact this) (fun x cs h => h) (fun _ h => h.elim) (fun _ _ => trivial) HB14.out HB14.out.size (by simp; omega) ?_
       intro v15 V15 hR15 hB15 hg15 hat15
       rw [List.nil_append] at hR15
       have hX15 := (hg15.block bx (blk_lt HX14.out) (Kd.R_ne HR14.out HX14.out (by decide))).trans HX14.out
       clear hg15 hat15
       have HB15 := Aside0.mk hB15
       have HR15 := Aside0.mk hR15
       have HX15 : Aside0 (V15.heap[bx]? = some (.cells #[.int .i64 0, .slice none 0 0] 24 (0, 0))) := ⟨hX15⟩
       clear hB15 hR15 hX15
       refine hK.out _ _ ⟨(HB15.out.cell hlt4).trans g0, (HB15.out.cell hlt4).trans g1⟩ (fun hHeld => ?_)
       clear hK K
       refine norm_ (a' := ?_) ?_ ?_
       rotate_left
       ·
        show Act.put _ (some 64) _ = _
        simp only [Act.put, List.setIfInBounds_toArray, List.set_cons_zero, List.set_cons_succ, i64_w, i32_w]
        rfl
       refine one_ (i := 12) (N := some 69) #[true, true, true, true, true, true, true, true, true, true, true, true, true, false, true, false] rfl rfl (by kernel_rfl) (by decide) (fun K hK => ?_)
       refine Kd.R_append_rows_step k70 (w0 := W4) W4.heap.size (by rfl) (.tmp 64) (.tmp 68) 22 70 (.agg #[(.int .i64 0), (.int .i64 0), (.int .i64 0), (.int .i64 0), (.bool false)]) 40 rfl Try.underlying22 info70 rfl (by decide) (by decide) v15 (l.drop k) (l.take k) (some ad) k c (fun _ => True) (fun _ => False) rfl rfl HR15.out (by have := Kd.C_take (k := k70) (Kd.C_below HR.out (below_step HB4.out HB15.out)) hk1; rw [List.length_take, Nat.min_eq_left hk1] at this; exact this) (fun x cs h => h) (fun _ h => h.elim) (fun _ _ => trivial) HB15.out HB15.out.size (by simp; omega) ?_
       intro v16 V16 hR16 hB16 hg16 hat16
       rw [← HY0.out] at hR16
       have hX16 := (hg16.block bx (blk_lt HX15.out) (Kd.R_ne HR15.out HX15.out (by decide))).trans HX15.out
       clear hg16 hat16
       obtain ⟨Ax, cx, rfl⟩ := Kd.R_slice hR16
       have HB16 := Aside0.mk hB16
       have HR16 := Aside0.mk hR16
       have HX16 : Aside0 (V16.heap[bx]? = some (.cells #[.int .i64 0, .slice none 0 0] 24 (0, 0))) := ⟨hX16⟩
       clear hB16 hR16 hX16
       refine hK.out _ _ ⟨(HB16.out.cell hlt4).trans g0, (HB16.out.cell hlt4).trans g1⟩ (fun hHeld => ?_)
       clear hK K
       refine norm_ (a' := ?_) ?_ ?_
       rotate_left
       ·
        show Act.put _ (some 69) _ = _
        simp only [Act.put, List.setIfInBounds_toArray, List.set_cons_zero, List.set_cons_succ, i64_w, i32_w]
        rfl
       refine pure_ (i := 13) (N := some 70) (v := ?_) (a' := ?_) #[true, true, true, true, true, true, true, true, true, true, true, true, true, true, true, false] rfl rfl (by kernel_rfl) (fun _ _ _ h => h) (Or.inl ⟨by rfl, ?_⟩) ?_ ?_
       rotate_left
       ·
        intro w'
        go_simp
        with_reducible rfl
       rotate_left
       ·
        simp only [Act.put, List.setIfInBounds_toArray, List.set_cons_zero, List.set_cons_succ, i64_w, i32_w]
        rfl
       refine one_ (i := 15) (N := none) #[true, true, true, true, true, true, true, true, true, true, true, true, true, true, true, true] rfl rfl (by kernel_rfl) (by decide) (fun K hK => ?_)
       refine store24_ (bx := bx) (c0 := .int .i64 0) (c1 := .slice none 0 0) (x0 := .int .i64 a) (x1 := .slice Ax y0.length cx) (by rfl) rfl 9 70 rfl rfl rfl HX16.out rfl rfl ?_
       have HB17 : Aside0 (Below W4.heap.size W4 ((V16.setCell ⟨bx, 0, none⟩ (.int .i64 a)).setCell ⟨bx, 1, none⟩ (.slice Ax y0.length cx))) := ⟨(HB16.out.setCell HBQ.out _).setCell HBQ.out _⟩
       have HX0_ := blk_put HX16.out 0 (.int .i64 a) (cs' := #[.int .i64 a, .slice none 0 0]) rfl
       have HX17 := Aside0.mk (blk_put HX0_ 1 (.slice Ax y0.length cx) (cs' := #[.int .i64 a, .slice Ax y0.length cx]) rfl)
       have HR17 := Aside0.mk (Kd.R_set (Kd.R_set HR16.out HX16.out (by decide) 0 (.int .i64 a)) HX0_ (by decide) 1 (.slice Ax y0.length cx))
       clear HX0_
       refine hK.out _ _ ⟨(HB17.out.cell hlt4).trans g0, (HB17.out.cell hlt4).trans g1⟩ (fun hHeld => ?_)
       clear hK K
       refine done_ (by kernel_rfl) ?_
       try go_wp2
       go_meet
       exact ⟨bx, Ax, cx, rfl, HBQ, HX17, HR17, HB17⟩
     case rest =>
      obtain ⟨bx, Ax, cx, rfl, HBQ, HX5, HR5, HB5⟩ := hcut
      have HG5 := Aside0.mk (blk_below HG4.out HB5.out)
      have HBw := Aside0.mk (below_step HB4.out HB5.out)
      clear HB4 HG4 g0 g1
      have g0 : wc.cell? ⟨w.heap.size, 0, none⟩ = some (.int .i64 a) := (blk_cell HG5.out 0).trans rfl
      go_upto_region 6 with fail
      have hyl : y0.length = l.length := by rw [HY0.out, List.length_append, List.length_drop, List.length_take, Nat.min_eq_left hk1]; omega
      obtain ⟨g, cap, hv, hbg, hcap, hGA⟩ := games_of HR5.out (by omega)
      cases hv
      have hgx : g ≠ bx := by
       intro e
       obtain ⟨cur, h1, _⟩ := hGA
       rw [e, HX5.out] at h1
       cases h1
      have hbxlt := blk_lt HX5.out
      have hglt := hGA.lt
      have hqq := HBQ.out
      have hX6 := blk_alloc HX5.out (.cells #[.int .i64 a, .slice none 0 0] 24)
      have hG6 := blk_alloc HG5.out (.cells #[.int .i64 a, .slice none 0 0] 24)
      have hB6 := below_alloc HBw.out (.cells #[.int .i64 a, .slice none 0 0] 24)
      have hGA6 := hGA.same (w1 := wc.alloc (.cells #[.int .i64 a, .slice none 0 0] 24)) ((below_alloc (Below.refl wc.heap.size wc) (.cells #[.int .i64 a, .slice none 0 0] 24)).block g hglt)
      have hY6 := blk_new wc (.cells #[.int .i64 a, .slice none 0 0] 24)
      obtain ⟨W6, hW6⟩ : ∃ W, W = wc.alloc (.cells #[.int .i64 a, .slice none 0 0] 24) := ⟨_, rfl⟩
      obtain ⟨bY, hbY⟩ : ∃ b, b = wc.heap.size := ⟨_, rfl⟩
      rw [← hW6] at hX6 hG6 hB6 hGA6
      rw [← hW6, ← hbY] at hY6
      rw [← hbY] at hbxlt hglt
      rw [← hW6, ← hbY]
      have hylt : bY < W6.heap.size := blk_lt hY6
      have HF := Lib.hid (show w.heap.size < g ∧ w.heap.size < bx ∧ g ≠ bx ∧ g < bY ∧ bx < bY ∧ bY < W6.heap.size from ⟨by omega, by omega, hgx, hglt, hbxlt, hylt⟩)
      have HX6 := Aside0.mk hX6
      have HG6 := Aside0.mk hG6
      have HB6 := Aside0.mk hB6
      have HGA6 := Aside0.mk hGA6
      have HY6 : Aside0 (W6.heap[bY]? = some (.cells #[.int .i64 a, .slice none 0 0] 24 (0, 0))) := ⟨hY6⟩
      have HCXX := Lib.hid hcap
      clear hX6 hG6 hB6 hGA6 hY6 hgx hbxlt hglt hqq hylt hbg hcap hGA HX5 HG5 HBw HR5 HB5 HBQ hW6 hbY g0 hlt4 hn4
      have HYL := Lib.hid hyl
      have HTM : Hid (∀ x ∈ y0, 0 ≤ x.f0 ∧ x.f0 < a ∧ 0 ≤ x.f1 ∧ x.f1 < a) := by
       intro x hx
       have hxl : x ∈ l := by
        rw [HY0.out, List.mem_append] at hx
        rcases hx with hx | hx
        ·
         exact List.mem_of_mem_drop hx
        ·
         exact List.mem_of_mem_take hx
       have h1 := (check_ok HCK.out).2.2.2 (toG x) (List.mem_map_of_mem hxl)
       simp only [gameB, Bool.and_eq_true, decide_eq_true_eq] at h1
       simp only [toG] at h1; omega
      obtain ⟨sw, hsw⟩ : ∃ sw : Nat → Bool, ∀ i : Nat, ((by_ / 2 ^ (i % 8)).tmod 2 == 1) = sw i := ⟨_, fun _ => rfl⟩
      have HSW := Lib.hid hsw
      clear hsw
      obtain ⟨X0, hX0⟩ : ∃ X, swapsX sw 0 y0 = X := ⟨_, rfl⟩
      have HX0 := Lib.hid hX0
      clear hX0
      go_wp2
      go_loopw [11] (fun v11 wr => ∃ (i : Nat) (xs ys : List S70) (Ay : Option Addr) (cy : Nat), i ≤ y0.length ∧ v11 = .int .i64 i ∧ Aside0 (xs.length = y0.length ∧ xs.take i ++ swapsX sw i (y0.drop i) = X0 ∧ xs.drop i = y0.drop i) ∧ Aside0 (ys = (y0.take i).map (onG a m)) ∧ Aside0 (GamesAt wr g xs) ∧ Aside0 (wr.heap[bx]? = some (.cells #[.int .i64 a, .slice (some ⟨g, 0, none⟩) y0.length cx] 24 (0, 0))) ∧ Aside0 (wr.heap[bY]? = some (.cells #[.int .i64 a, .slice Ay ys.length cy] 24 (0, 0))) ∧ Aside0 (wr.heap[w.heap.size]? = some (.cells #[.int .i64 a, .slice (some ad) l.length c] 24 (0, 0))) ∧ Aside0 (Kd.R k70 70 wr W6.heap.size (fun _ => True) (.slice Ay ys.length cy) ys) ∧ Aside0 (Below w.heap.size w wr) ∧ Aside0 (W6.heap.size ≤ wr.heap.size)) (fun v11 _ => y0.length - (intOf v11).toNat)
      case atStart => exact ⟨0, y0, [], none, 0, Nat.zero_le _, rfl, ⟨rfl, by rw [List.take_zero, List.drop_zero, List.nil_append]; exact HX0.out, rfl⟩, ⟨rfl⟩, HGA6, HX6, HY6, HG6, ⟨Kd.R_nil _ _ _ _ _⟩, HB6, ⟨Nat.le_refl _⟩⟩
      case round =>
       obtain ⟨i, xs, ys, Ay, cy, hi, rfl, hxs, hys, hGr, hXr, hYr, hLr, hRr, hBr, hsz⟩ := hrel
       have x1 : wr.cell? ⟨bx, 1, none⟩ = some (.slice (some ⟨g, 0, none⟩) y0.length cx) := (blk_cell hXr.out 1).trans rfl
       by_cases hlt : i < y0.length
       ·
        have hxl := hxs.out.1
        obtain ⟨x, hx⟩ : ∃ x, rd_T70 xs (i : Int) = x := ⟨_, rfl⟩
        have HXI := Lib.hid hx
        have d0 := hGr.out.cell i 0 (by omega) (by decide)
        have d1 := hGr.out.cell i 1 (by omega) (by decide)
        have d2 := hGr.out.cell i 2 (by omega) (by decide)
        have d3 := hGr.out.cell i 3 (by omega) (by decide)
        have d4 := hGr.out.cell i 4 (by omega) (by decide)
        rw [hx] at d0 d1 d2 d3 d4
        replace d4 : wr.cell? ⟨g, i * 5 + 4, none⟩ = some (.bool x.f4) := d4
        replace d3 : wr.cell? ⟨g, i * 5 + 3, none⟩ = some (.int .i64 x.f3) := d3
        replace d2 : wr.cell? ⟨g, i * 5 + 2, none⟩ = some (.int .i64 x.f2) := d2
        replace d1 : wr.cell? ⟨g, i * 5 + 1, none⟩ = some (.int .i64 x.f1) := d1
        replace d0 : wr.cell? ⟨g, i * 5, none⟩ = some (.int .i64 x.f0) := d0
        have hil : i < l.length := by omega
        clear hx hxl
        go_upto_region 10 with fail
        have hal := below_alloc (Below.refl wr.heap.size wr) (.cells #[.int .i64 x.f0, .int .i64 x.f1, .int .i64 x.f2, .int .i64 x.f3, .bool x.f4] 70)
        have hB9 := below_step hBr.out hal
        have hX9 := blk_below hXr.out hal
        have hY9 := blk_below hYr.out hal
        have hL9 := blk_below hLr.out hal
        have hG9 := hGr.out.below hal
        have hR9 := Kd.R_below (Kd.R_elderB hRr.out wr.heap.size (Nat.le_refl _)) hal
        have hN9 := blk_new wr (.cells #[.int .i64 x.f0, .int .i64 x.f1, .int .i64 x.f2, .int .i64 x.f3, .bool x.f4] 70)
        obtain ⟨W9, hW9⟩ : ∃ W, W = wr.alloc (.cells #[.int .i64 x.f0, .int .i64 x.f1, .int .i64 x.f2, .int .i64 x.f3, .bool x.f4] 70) := ⟨_, rfl⟩
        obtain ⟨bc, hbc⟩ : ∃ b, b = wr.heap.size := ⟨_, rfl⟩
        rw [← hW9] at hB9 hX9 hY9 hL9 hG9
        rw [← hW9, ← hbc] at hN9 hR9
        rw [← hW9, ← hbc]
        have hFC : W6.heap.size ≤ bc ∧ bc < W9.heap.size := ⟨by rw [hbc]; exact hsz.out, blk_lt hN9⟩
        have HFC := Lib.hid hFC
        have HB9 := Aside0.mk hB9
        have HX9 := Aside0.mk hX9
        have HY9 := Aside0.mk hY9
        have HL9 := Aside0.mk hL9
        have HG9 := Aside0.mk hG9
        have HR9 := Aside0.mk hR9
        have HN9 : Aside0 (W9.heap[bc]? = some (.cells #[.int .i64 x.f0, .int .i64 x.f1, .int .i64 x.f2, .int .i64 x.f3, .bool x.f4] 70 (0, 0))) := ⟨hN9⟩
        clear hal hB9 hX9 hY9 hL9 hG9 hR9 hN9 hFC hBr hXr hYr hLr hGr hRr hsz x1 d0 d1 d2 d3 d4 hW9 hbc
        go_upto_if 93 with fail
        have hfc := HF.out
        have hfc2 := HFC.out
        have n0 := blk_cell HN9.out 0
        have n1 := blk_cell HN9.out 1
        have n2 := blk_cell HN9.out 2
        have n3 := blk_cell HN9.out 3
        have n4 := blk_cell HN9.out 4
        replace n0 : W9.cell? ⟨bc, 0, none⟩ = some (.int .i64 x.f0) := n0
        replace n1 : W9.cell? ⟨bc, 1, none⟩ = some (.int .i64 x.f1) := n1
        replace n2 : W9.cell? ⟨bc, 2, none⟩ = some (.int .i64 x.f2) := n2
        replace n3 : W9.cell? ⟨bc, 3, none⟩ = some (.int .i64 x.f3) := n3
        replace n4 : W9.cell? ⟨bc, 4, none⟩ = some (.bool x.f4) := n4
        have x1 : W9.cell? ⟨bx, 1, none⟩ = some (.slice (some ⟨g, 0, none⟩) y0.length cx) := (blk_cell HX9.out 1).trans rfl
        have hxl := hxs.out.1
        have hil2 : i < xs.length := by omega
        go_cut [93] (fun _ wx => Aside0 (GamesAt wx g (xs.set i (if sw i = true then swapG x else x))) ∧ Aside0 (wx.heap[bx]? = some (.cells #[.int .i64 a, .slice (some ⟨g, 0, none⟩) y0.length cx] 24 (0, 0))) ∧ Aside0 (wx.heap[bY]? = some (.cells #[.int .i64 a, .slice Ay ys.length cy] 24 (0, 0))) ∧ Aside0 (wx.heap[w.heap.size]? = some (.cells #[.int .i64 a, .slice (some ad) l.length c] 24 (0, 0))) ∧ Aside0 (wx.heap[bc]? = some (.cells #[.int .i64 x.f0, .int .i64 x.f1, .int .i64 x.f2, .int .i64 x.f3, .bool x.f4] 70 (0, 0))) ∧ Aside0 (Kd.R k70 70 wx W6.heap.size (fun k => True ∧ k ≠ bc) (.slice Ay ys.length cy) ys) ∧ Aside0 (Below w.heap.size w wx) ∧ Aside0 (bc < wx.heap.size))
        case first =>
         rw [HSW.out i]
         cases hsb : sw i with
         | false =>
          have HSB := Lib.hid hsb
          clear hsb
          have hG' := HG9.out
          have hse : xs.set i x = xs := by
           have := set_rd70 xs i hil2
           rw [HXI.out] at this
           exact this
          go_wp2
          go_meet
          exact ⟨⟨by rw [if_neg (by rw [HSB.out]; exact Bool.false_ne_true), hse]; exact HG9.out⟩, HX9, HY9, HL9, HN9, HR9, HB9, ⟨HFC.out.2⟩⟩
         | true =>
          have HSB := Lib.hid hsb
          clear hsb
          have d0 := HG9.out.cell i 0 (by omega) (by decide)
          have d1 := HG9.out.cell i 1 (by omega) (by decide)
          have d2 := HG9.out.cell i 2 (by omega) (by decide)
          have d3 := HG9.out.cell i 3 (by omega) (by decide)
          have d4 := HG9.out.cell i 4 (by omega) (by decide)
          rw [HXI.out] at d0 d1 d2 d3 d4
          replace d4 : W9.cell? ⟨g, i * 5 + 4, none⟩ = some (.bool x.f4) := d4
          replace d3 : W9.cell? ⟨g, i * 5 + 3, none⟩ = some (.int .i64 x.f3) := d3
          replace d2 : W9.cell? ⟨g, i * 5 + 2, none⟩ = some (.int .i64 x.f2) := d2
          replace d1 : W9.cell? ⟨g, i * 5 + 1, none⟩ = some (.int .i64 x.f1) := d1
          replace d0 : W9.cell? ⟨g, i * 5, none⟩ = some (.int .i64 x.f0) := d0
          have e0 := HG9.out.frozen (i * 5)
          have e1 := HG9.out.frozen (i * 5 + 1)
          have e2 := HG9.out.frozen (i * 5 + 2)
          have e3 := HG9.out.frozen (i * 5 + 3)
          have e4 := HG9.out.frozen (i * 5 + 4)
          have HGS := Aside0.mk (HG9.out.swap i hil2 x HXI.out)
          have HZ : Aside0 (∀ k, k ≠ g → (((((W9.setCell ⟨g, i * 5, none⟩ (.int .i64 x.f1)).setCell ⟨g, i * 5 + 1, none⟩ (.int .i64 x.f0)).setCell ⟨g, i * 5 + 2, none⟩ (.int .i64 x.f3)).setCell ⟨g, i * 5 + 3, none⟩ (.int .i64 x.f2)).setCell ⟨g, i * 5 + 4, none⟩ (.bool x.f4)).heap[k]? = W9.heap[k]?) := ⟨fun k hk => (Below.heap_setCell _ ⟨g, i * 5 + 4, none⟩ _ k hk).trans ((Below.heap_setCell _ ⟨g, i * 5 + 3, none⟩ _ k hk).trans ((Below.heap_setCell _ ⟨g, i * 5 + 2, none⟩ _ k hk).trans ((Below.heap_setCell _ ⟨g, i * 5 + 1, none⟩ _ k hk).trans (Below.heap_setCell _ ⟨g, i * 5, none⟩ _ k hk))))⟩
          have HBS : Aside0 (Below w.heap.size w (((((W9.setCell ⟨g, i * 5, none⟩ (.int .i64 x.f1)).setCell ⟨g, i * 5 + 1, none⟩ (.int .i64 x.f0)).setCell ⟨g, i * 5 + 2, none⟩ (.int .i64 x.f3)).setCell ⟨g, i * 5 + 3, none⟩ (.int .i64 x.f2)).setCell ⟨g, i * 5 + 4, none⟩ (.bool x.f4))) := by
           have hle : w.heap.size ≤ g := by omega
           exact ⟨(((((HB9.out.setCell hle _).setCell hle _).setCell hle _).setCell hle _).setCell hle _)⟩
          have HRS := Aside0.mk (Kd.R_mono (Kd.R_move (Kd.R_bound HR9.out) (fun k hk => HZ.out k (by have := hk.2.1; omega))) (fun _ hk => hk.1))
          go_wp2
          go_meet
          refine ⟨⟨by rw [if_pos HSB.out]; exact HGS.out⟩, ⟨(HZ.out bx (by omega)).trans HX9.out⟩, ⟨(HZ.out bY (by omega)).trans HY9.out⟩, ⟨(HZ.out w.heap.size (by omega)).trans HL9.out⟩, ⟨(HZ.out bc (by omega)).trans HN9.out⟩, ⟨HRS.out⟩, ⟨HBS.out⟩, ⟨blk_lt ((HZ.out bc (by omega)).trans HN9.out)⟩⟩
        case rest =>
         obtain ⟨hG10, hX10, hY10, hL10, hN10, hR10, hB10, hz10⟩ := hcut
         clear HG9 HX9 HY9 HL9 HN9 HR9 HB9 n0 n1 n2 n3 n4 x1
         try clear hfc hfc2
         have hfc := HF.out
         have hfc2 := HFC.out
         go_upto_region 12 with fail
         have hdx := drop70 xs i hil2
         have hdy := drop70 y0 i hlt
         have hsm := hxs.out.2.2
         rw [hdx, hdy, HXI.out] at hsm
         injection hsm with hs1 hs2
         have hxm : x ∈ y0 := by
          have : x ∈ y0.drop i := by rw [hdy, ← hs1]; exact List.mem_cons_self
          exact List.mem_of_mem_drop this
         obtain ⟨q0, q1, q2, q3⟩ := HTM.out x hxm
         have HS1 := Lib.hid hs1
         have HS2 := Lib.hid hs2
         have ht0 := on_tmod a m x.f0 hm0 hma q0 q1
         have ht1 := on_tmod a m x.f1 hm0 hma q2 q3
         clear hdx hdy hs1 hs2 hxm hxl hil2 hkl hk1 hk2 hlc hck hck2 hk3 hil
         have n0 : wc.cell? ⟨bc, 0, none⟩ = some (.int .i64 x.f0) := (blk_cell hN10.out 0).trans rfl
         have n1 : wc.cell? ⟨bc, 1, none⟩ = some (.int .i64 x.f1) := (blk_cell hN10.out 1).trans rfl
         have e0 := blk_frozen hN10.out 0
         have e1 := blk_frozen hN10.out 1
         have g0 : wc.cell? ⟨w.heap.size, 0, none⟩ = some (.int .i64 a) := (blk_cell hL10.out 0).trans rfl
         have hbw : bc ≠ w.heap.size := by omega
         obtain ⟨f0', hf0⟩ : ∃ z, onT a m x.f0 = z := ⟨_, rfl⟩
         obtain ⟨f1', hf1⟩ : ∃ z, onT a m x.f1 = z := ⟨_, rfl⟩
         rw [hf0] at ht0
         rw [hf1] at ht1
         have hw0 : IntKind.i64.wrap (x.f0 + m) = x.f0 + m := by unfold IntKind.wrap; simp [IntKind.bits, IntKind.signed]; omega
         have hw1 : IntKind.i64.wrap (x.f1 + m) = x.f1 + m := by unfold IntKind.wrap; simp [IntKind.bits, IntKind.signed]; omega
         have HQF := Lib.hid hf0
         have HQG := Lib.hid hf1
         clear hf0 hf1
         have HX0_ := blk_put hN10.out 0 (.int .i64 f0') (cs' := #[.int .i64 f0', .int .i64 x.f1, .int .i64 x.f2, .int .i64 x.f3, .bool x.f4]) rfl
         have hN11 := Aside0.mk (blk_put HX0_ 1 (.int .i64 f1') (cs' := #[.int .i64 f0', .int .i64 f1', .int .i64 x.f2, .int .i64 x.f3, .bool x.f4]) rfl)
         have HZ : Aside0 (∀ k, k ≠ bc → ((wc.setCell ⟨bc, 0, none⟩ (.int .i64 f0')).setCell ⟨bc, 1, none⟩ (.int .i64 f1')).heap[k]? = wc.heap[k]?) := ⟨fun k hk => (Below.heap_setCell _ ⟨bc, 1, none⟩ _ k hk).trans (Below.heap_setCell _ ⟨bc, 0, none⟩ _ k hk)⟩
         have hB11 : Aside0 (Below w.heap.size w ((wc.drew.setCell ⟨bc, 0, none⟩ (.int .i64 f0')).setCell ⟨bc, 1, none⟩ (.int .i64 f1'))) := by
          have hle : w.heap.size ≤ bc := by omega
          exact ⟨((below_drew1 hB10.out).setCell hle _).setCell hle _⟩
         have hgb : g ≠ bc ∧ bx ≠ bc ∧ bY ≠ bc ∧ w.heap.size ≠ bc := by omega
         have hX11 := Aside0.mk ((HZ.out bx hgb.2.1).trans hX10.out)
         have hY11 := Aside0.mk ((HZ.out bY hgb.2.2.1).trans hY10.out)
         have hL11 := Aside0.mk ((HZ.out w.heap.size hgb.2.2.2).trans hL10.out)
         have hG11 := Aside0.mk (hG10.out.same (HZ.out g hgb.1))
         clear hgb
         have hR11 : Aside0 (Kd.R k70 70 ((wc.setCell ⟨bc, 0, none⟩ (.int .i64 f0')).setCell ⟨bc, 1, none⟩ (.int .i64 f1')) W6.heap.size (fun k => True ∧ k ≠ bc) (.slice Ay ys.length cy) ys) := ⟨Kd.R_far (p := ⟨bc, 1, none⟩) (Kd.R_far (p := ⟨bc, 0, none⟩) hR10.out (fun _ hk => hk.2) _) (fun _ hk => hk.2) _⟩
         clear HX0_
         have g01 : ((wc.drew.setCell ⟨bc, 0, none⟩ (.int .i64 f0'))).cell? ⟨w.heap.size, 0, none⟩ = some (.int .i64 a) := (World.cell?_setCell_other wc.drew _ _ _ (by intro e; simp at e <;> omega)).trans g0
         have g02 : ((wc.drew.setCell ⟨bc, 0, none⟩ (.int .i64 f0')).setCell ⟨bc, 1, none⟩ (.int .i64 f1')).cell? ⟨w.heap.size, 0, none⟩ = some (.int .i64 a) := (World.cell?_setCell_other _ _ _ _ (by intro e; simp at e <;> omega)).trans g01
         go_cut [115] (fun _ wx => Aside0 (GamesAt wx g (xs.set i (if sw i = true then swapG x else x))) ∧ Aside0 (wx.heap[bx]? = some (.cells #[.int .i64 a, .slice (some ⟨g, 0, none⟩) y0.length cx] 24 (0, 0))) ∧ Aside0 (wx.heap[bY]? = some (.cells #[.int .i64 a, .slice Ay ys.length cy] 24 (0, 0))) ∧ Aside0 (wx.heap[w.heap.size]? = some (.cells #[.int .i64 a, .slice (some ad) l.length c] 24 (0, 0))) ∧ Aside0 (wx.heap[bc]? = some (.cells #[.int .i64 (onT a m x.f0), .int .i64 (onT a m x.f1), .int .i64 x.f2, .int .i64 x.f3, .bool x.f4] 70 (0, 0))) ∧ Aside0 (Kd.R k70 70 wx W6.heap.size (fun k => True ∧ k ≠ bc) (.slice Ay ys.length cy) ys) ∧ Aside0 (Below w.heap.size w wx) ∧ Aside0 (bc < wx.heap.size))
         case first =>
          refine start_ (n := 18) (S := fun w' => w'.cell? ⟨w.heap.size, 0, none⟩ = some (.int .i64 a)) (ds := []) #[false, false, false, false, false, false, false, false, false, false, false, false, false, false, false, false, false, false] (by kernel_rfl) rfl rfl g0 (fun hHeld => ?_)
          refine pure_ (i := 0) (N := some 109) (v := ?_) (a' := ?_) #[true, false, false, false, false, false, false, false, false, false, false, false, false, false, false, false, false, false] rfl rfl (by kernel_rfl) (fun _ _ _ h => h) (Or.inl ⟨by rfl, ?_⟩) ?_ ?_
          rotate_left
          ·
           intro w'
           go_simp
           with_reducible rfl
          rotate_left
          ·
           simp only [Act.put, List.setIfInBounds_toArray, List.set_cons_zero, List.set_cons_succ, i64_w, i32_w]
           rfl
          refine pure_ (i := 2) (N := some 111) (v := ?_) (a' := ?_) #[true, false, true, false, false, false, false, false, false, false, false, false, false, false, false, false, false, false] rfl rfl (by kernel_rfl) (fun _ _ _ h => h) (Or.inl ⟨by rfl, ?_⟩) ?_ ?_
          rotate_left
          ·
           intro w'
           go_simp
           with_reducible rfl
          rotate_left
          ·
           simp only [Act.put, List.setIfInBounds_toArray, List.set_cons_zero, List.set_cons_succ, i64_w, i32_w]
           rfl
          refine pure_ (i := 4) (N := some 113) (v := ?_) (a' := ?_) #[true, false, true, false, true, false, false, false, false, false, false, false, false, false, false, false, false, false] rfl rfl (by kernel_rfl) (fun _ _ _ h => h) (Or.inl ⟨by rfl, ?_⟩) ?_ ?_
          rotate_left
          ·
           intro w'
           go_simp
           with_reducible rfl
          rotate_left
          ·
           simp only [Act.put, List.setIfInBounds_toArray, List.set_cons_zero, List.set_cons_succ, i64_w, i32_w]
           rfl
          refine pure_ (i := 7) (N := some 116) (v := ?_) (a' := ?_) #[true, false, true, false, true, false, false, true, false, false, false, false, false, false, false, false, false, false] rfl rfl (by kernel_rfl) (fun _ _ _ h => h) (Or.inl ⟨by rfl, ?_⟩) ?_ ?_
          rotate_left
          ·
           intro w'
           go_simp
           with_reducible rfl
          rotate_left
          ·
           simp only [Act.put, List.setIfInBounds_toArray, List.set_cons_zero, List.set_cons_succ, i64_w, i32_w]
           rfl
          refine pure_ (i := 9) (N := some 118) (v := ?_) (a' := ?_) #[true, false, true, false, true, false, false, true, false, true, false, false, false, false, false, false, false, false] rfl rfl (by kernel_rfl) (fun _ _ _ h => h) (Or.inl ⟨by rfl, ?_⟩) ?_ ?_
          rotate_left
          ·
           intro w'
           go_simp
           with_reducible rfl
          rotate_left
          ·
           simp only [Act.put, List.setIfInBounds_toArray, List.set_cons_zero, List.set_cons_succ, i64_w, i32_w]
           rfl
          refine pure_ (i := 11) (N := some 120) (v := ?_) (a' := ?_) #[true, false, true, false, true, false, false, true, false, true, false, true, false, false, false, false, false, false] rfl rfl (by kernel_rfl) (fun _ _ _ h => h) (Or.inl ⟨by rfl, ?_⟩) ?_ ?_
          rotate_left
          ·
           intro w'
           go_simp
           with_reducible rfl
          rotate_left
          ·
           simp only [Act.put, List.setIfInBounds_toArray, List.set_cons_zero, List.set_cons_succ, i64_w, i32_w]
           rfl
          refine take_ (i := 5) (N := some 114) (v := ?_) (a' := ?_) #[true, false, true, false, true, true, false, true, false, true, false, true, false, false, false, false, false, false] rfl rfl (by kernel_rfl) (fun _ _ _ h => h) (Or.inl ⟨by rfl, ?_⟩) hHeld ?_ ?_
          rotate_left
          ·
           intro w' s0
           go_simp
           with_reducible rfl
          rotate_left
          ·
           simp only [Act.put, List.setIfInBounds_toArray, List.set_cons_zero, List.set_cons_succ, i64_w, i32_w]
           rfl
          refine take_ (i := 12) (N := some 121) (v := ?_) (a' := ?_) #[true, false, true, false, true, true, false, true, false, true, false, true, true, false, false, false, false, false] rfl rfl (by kernel_rfl) (fun _ _ _ h => h) (Or.inl ⟨by rfl, ?_⟩) hHeld ?_ ?_
          rotate_left
          ·
           intro w' s0
           go_simp
           with_reducible rfl
          rotate_left
          ·
           simp only [Act.put, List.setIfInBounds_toArray, List.set_cons_zero, List.set_cons_succ, i64_w, i32_w]
           rfl
          refine two_ (i := 1) (j := 8) (Ni := some 110) (Nj := some 117) #[true, true, true, false, true, true, false, true, false, true, false, true, true, false, false, false, false, false] #[true, false, true, false, true, true, false, true, true, true, false, true, true, false, false, false, false, false] rfl rfl rfl rfl (by kernel_rfl) (by decide) (by decide) (fun K hK => ?_) (fun K hK => ?_)
          ·
           refine value_ (w1 := wc.drew) (v := .int .i64 x.f0) (by rfl) rfl ?_ ?_
           ·
            go_simp
           refine hK.out _ _ g0 (fun hHeld => ?_)
           clear hK K
           refine norm_ (a' := ?_) ?_ ?_
           rotate_left
           ·
            show Act.put _ (some 110) _ = _
            simp only [Act.put, List.setIfInBounds_toArray, List.set_cons_zero, List.set_cons_succ, i64_w, i32_w]
            rfl
           refine pure_ (i := 3) (N := some 112) (v := ?_) (a' := ?_) #[true, true, true, true, true, true, false, true, false, true, false, true, true, false, false, false, false, false] rfl rfl (by kernel_rfl) (fun _ _ _ h => h) (Or.inl ⟨by rfl, ?_⟩) ?_ ?_
           rotate_left
           ·
            intro w'
            go_simp
            with_reducible rfl
           rotate_left
           ·
            simp only [Act.put, List.setIfInBounds_toArray, List.set_cons_zero, List.set_cons_succ, i64_w, i32_w]
            rfl
           refine pure_ (i := 6) (N := some 115) (v := ?_) (a' := ?_) #[true, true, true, true, true, true, true, true, false, true, false, true, true, false, false, false, false, false] rfl rfl (by kernel_rfl) (fun _ _ _ h => h) (Or.inl ⟨by rfl, ?_⟩) ?_ ?_
           rotate_left
           ·
            intro w'
            go_simp
            with_reducible rfl
           rotate_left
           ·
            simp only [Act.put, List.setIfInBounds_toArray, List.set_cons_zero, List.set_cons_succ, i64_w, i32_w]
            rfl
           refine one_ (i := 8) (N := some 117) #[true, true, true, true, true, true, true, true, true, true, false, true, true, false, false, false, false, false] rfl rfl (by kernel_rfl) (by decide) (fun K hK => ?_)
           refine value_ (w1 := wc.drew) (v := .int .i64 x.f1) (by rfl) rfl ?_ ?_
           ·
            go_simp
           refine hK.out _ _ g0 (fun hHeld => ?_)
           clear hK K
           refine norm_ (a' := ?_) ?_ ?_
           rotate_left
           ·
            show Act.put _ (some 117) _ = _
            simp only [Act.put, List.setIfInBounds_toArray, List.set_cons_zero, List.set_cons_succ, i64_w, i32_w]
            rfl
           refine pure_ (i := 10) (N := some 119) (v := ?_) (a' := ?_) #[true, true, true, true, true, true, true, true, true, true, true, true, true, false, false, false, false, false] rfl rfl (by kernel_rfl) (fun _ _ _ h => h) (Or.inl ⟨by rfl, ?_⟩) ?_ ?_
           rotate_left
           ·
            intro w'
            go_simp
            with_reducible rfl
           rotate_left
           ·
            simp only [Act.put, List.setIfInBounds_toArray, List.set_cons_zero, List.set_cons_succ, i64_w, i32_w]
            rfl
           refine pure_ (i := 13) (N := some 122) (v := ?_) (a' := ?_) #[true, true, true, true, true, true, true, true, true, true, true, true, true, true, false, false, false, false] rfl rfl (by kernel_rfl) (fun _ _ _ h => h) (Or.inl ⟨by rfl, ?_⟩) ?_ ?_
           rotate_left
           ·
            intro w'
            go_simp
            with_reducible rfl
           rotate_left
           ·
            simp only [Act.put, List.setIfInBounds_toArray, List.set_cons_zero, List.set_cons_succ, i64_w, i32_w]
            rfl
           refine pure_ (i := 14) (N := some 123) (v := ?_) (a' := ?_) #[true, true, true, true, true, true, true, true, true, true, true, true, true, true, true, false, false, false] rfl rfl (by kernel_rfl) (fun _ _ _ h => h) (Or.inl ⟨by rfl, ?_⟩) ?_ ?_
           rotate_left
           ·
            intro w'
            go_simp
            with_reducible rfl
           rotate_left
           ·
            simp only [Act.put, List.setIfInBounds_toArray, List.set_cons_zero, List.set_cons_succ, i64_w, i32_w]
            rfl
           refine one_ (i := 15) (N := none) #[true, true, true, true, true, true, true, true, true, true, true, true, true, true, true, true, false, false] rfl rfl (by kernel_rfl) (by decide) (fun K hK => ?_)
           refine skip_ (w1 := (wc.drew.setCell ⟨bc, 0, none⟩ (.int .i64 f0'))) (by rfl) rfl ?_ ?_
           ·
            go_simp
           refine hK.out _ _ g01 (fun hHeld => ?_)
           clear hK K
           refine pure_ (i := 16) (N := some 124) (v := ?_) (a' := ?_) #[true, true, true, true, true, true, true, true, true, true, true, true, true, true, true, true, true, false] rfl rfl (by kernel_rfl) (fun _ _ _ h => h) (Or.inl ⟨by rfl, ?_⟩) ?_ ?_
           rotate_left
           ·
            intro w'
            go_simp
            with_reducible rfl
           rotate_left
           ·
            simp only [Act.put, List.setIfInBounds_toArray, List.set_cons_zero, List.set_cons_succ, i64_w, i32_w]
            rfl
           refine one_ (i := 17) (N := none) #[true, true, true, true, true, true, true, true, true, true, true, true, true, true, true, true, true, true] rfl rfl (by kernel_rfl) (by decide) (fun K hK => ?_)
           refine skip_ (w1 := ((wc.drew.setCell ⟨bc, 0, none⟩ (.int .i64 f0')).setCell ⟨bc, 1, none⟩ (.int .i64 f1'))) (by rfl) rfl ?_ ?_
           ·
            go_simp
           refine hK.out _ _ g02 (fun hHeld => ?_)
           clear hK K
           refine done_ (by kernel_rfl) ?_
           try go_wp2
           go_meet
           exact ⟨⟨hG11.out⟩, ⟨hX11.out⟩, ⟨hY11.out⟩, ⟨hL11.out⟩, ⟨by rw [HQF.out, HQG.out]; exact hN11.out⟩, ⟨hR11.out⟩, ⟨hB11.out⟩, ⟨blk_lt hN11.out⟩⟩
          ·
           refine value_ (w1 := wc.drew) (v := .int .i64 x.f1) (by rfl) rfl ?_ ?_
           ·
            go_simp
           refine hK.out _ _ g0 (fun hHeld => ?_)
           clear hK K
           refine norm_ (a' := ?_) ?_ ?_
           rotate_left
           ·
            show Act.put _ (some 117) _ = _
            simp only [Act.put, List.setIfInBounds_toArray, List.set_cons_zero, List.set_cons_succ, i64_w, i32_w]
            rfl
           refine pure_ (i := 10) (N := some 119) (v := ?_) (a' := ?_) #[true, false, true, false, true, true, false, true, true, true, true, true, true, false, false, false, false, false] rfl rfl (by kernel_rfl) (fun _ _ _ h => h) (Or.inl ⟨by rfl, ?_⟩) ?_ ?_
           rotate_left
           ·
            intro w'
            go_simp
            with_reducible rfl
           rotate_left
           ·
            simp only [Act.put, List.setIfInBounds_toArray, List.set_cons_zero, List.set_cons_succ, i64_w, i32_w]
            rfl
           refine pure_ (i := 13) (N := some 122) (v := ?_) (a' := ?_) #[true, false, true, false, true, true, false, true, true, true, true, true, true, true, false, false, false, false] rfl rfl (by kernel_rfl) (fun _ _ _ h => h) (Or.inl ⟨by rfl, ?_⟩) ?_ ?_
           rotate_left
           ·
            intro w'
            go_simp
            with_reducible rfl
           rotate_left
           ·
            simp only [Act.put, List.setIfInBounds_toArray, List.set_cons_zero, List.set_cons_succ, i64_w, i32_w]
            rfl
           refine one_ (i := 1) (N := some 110) #[true, true, true, false, true, true, false, true, true, true, true, true, true, true, false, false, false, false] rfl rfl (by kernel_rfl) (by decide) (fun K hK => ?_)
           refine value_ (w1 := wc.drew) (v := .int .i64 x.f0) (by rfl) rfl ?_ ?_
           ·
            go_simp
           refine hK.out _ _ g0 (fun hHeld => ?_)
           clear hK K
           refine norm_ (a' := ?_) ?_ ?_
           rotate_left
           ·
            show Act.put _ (some 110) _ = _
            simp only [Act.put, List.setIfInBounds_toArray, List.set_cons_zero, List.set_cons_succ, i64_w, i32_w]
            rfl
           refine pure_ (i := 3) (N := some 112) (v := ?_) (a' := ?_) #[true, true, true, true, true, true, false, true, true, true, true, true, true, true, false, false, false, false] rfl rfl (by kernel_rfl) (fun _ _ _ h => h) (Or.inl ⟨by rfl, ?_⟩) ?_ ?_
           rotate_left
           ·
            intro w'
            go_simp
            with_reducible rfl
           rotate_left
           ·
            simp only [Act.put, List.setIfInBounds_toArray, List.set_cons_zero, List.set_cons_succ, i64_w, i32_w]
            rfl
           refine pure_ (i := 6) (N := some 115) (v := ?_) (a' := ?_) #[true, true, true, true, true, true, true, true, true, true, true, true, true, true, false, false, false, false] rfl rfl (by kernel_rfl) (fun _ _ _ h => h) (Or.inl ⟨by rfl, ?_⟩) ?_ ?_
           rotate_left
           ·
            intro w'
            go_simp
            with_reducible rfl
           rotate_left
           ·
            simp only [Act.put, List.setIfInBounds_toArray, List.set_cons_zero, List.set_cons_succ, i64_w, i32_w]
            rfl
           refine pure_ (i := 14) (N := some 123) (v := ?_) (a' := ?_) #[true, true, true, true, true, true, true, true, true, true, true, true, true, true, true, false, false, false] rfl rfl (by kernel_rfl) (fun _ _ _ h => h) (Or.inl ⟨by rfl, ?_⟩) ?_ ?_
           rotate_left
           ·
            intro w'
            go_simp
            with_reducible rfl
           rotate_left
           ·
            simp only [Act.put, List.setIfInBounds_toArray, List.set_cons_zero, List.set_cons_succ, i64_w, i32_w]
            rfl
           refine one_ (i := 15) (N := none) #[true, true, true, true, true, true, true, true, true, true, true, true, true, true, true, true, false, false] rfl rfl (by kernel_rfl) (by decide) (fun K hK => ?_)
           refine skip_ (w1 := (wc.drew.setCell ⟨bc, 0, none⟩ (.int .i64 f0'))) (by rfl) rfl ?_ ?_
           ·
            go_simp
           refine hK.out _ _ g01 (fun hHeld => ?_)
           clear hK K
           refine pure_ (i := 16) (N := some 124) (v := ?_) (a' := ?_) #[true, true, true, true, true, true, true, true, true, true, true, true, true, true, true, true, true, false] rfl rfl (by kernel_rfl) (fun _ _ _ h => h) (Or.inl ⟨by rfl, ?_⟩) ?_ ?_
           rotate_left
           ·
            intro w'
            go_simp
            with_reducible rfl
           rotate_left
           ·
            simp only [Act.put, List.setIfInBounds_toArray, List.set_cons_zero, List.set_cons_succ, i64_w, i32_w]
            rfl
           refine one_ (i := 17) (N := none) #[true, true, true, true, true, true, true, true, true, true, true, true, true, true, true, true, true, true] rfl rfl (by kernel_rfl) (by decide) (fun K hK => ?_)
           refine skip_ (w1 := ((wc.drew.setCell ⟨bc, 0, none⟩ (.int .i64 f0')).setCell ⟨bc, 1, none⟩ (.int .i64 f1'))) (by rfl) rfl ?_ ?_
           ·
            go_simp
           refine hK.out _ _ g02 (fun hHeld => ?_)
           clear hK K
           refine done_ (by kernel_rfl) ?_
           try go_wp2
           go_meet
           exact ⟨⟨hG11.out⟩, ⟨hX11.out⟩, ⟨hY11.out⟩, ⟨hL11.out⟩, ⟨by rw [HQF.out, HQG.out]; exact hN11.out⟩, ⟨hR11.out⟩, ⟨hB11.out⟩, ⟨blk_lt hN11.out⟩⟩
         case rest =>
          clear hG10 hX10 hY10 hL10 hN10 hR10 hB10 hz10 hG11 hX11 hY11 hL11 hN11 hR11 hB11 HZ n0 n1 e0 e1 g0 g01 g02 ht0 ht1 hw0 hw1
          obtain ⟨hG12, hX12, hY12, hL12, hN12, hR12, hB12, hz12⟩ := hcut
          obtain ⟨xg, hxg⟩ : ∃ z, onG a m x = z := ⟨_, rfl⟩
          have hN12' : Aside0 (wc.heap[bc]? = some (.cells #[.int .i64 xg.f0, .int .i64 xg.f1, .int .i64 xg.f2, .int .i64 xg.f3, .bool xg.f4] 70 (0, 0))) := ⟨by rw [← hxg]; exact hN12.out⟩
          have HXG := Lib.hid hxg
          clear hxg hN12
          have n0 : wc.cell? ⟨bc, 0, none⟩ = some (.int .i64 xg.f0) := (blk_cell hN12'.out 0).trans rfl
          have n1 : wc.cell? ⟨bc, 1, none⟩ = some (.int .i64 xg.f1) := (blk_cell hN12'.out 1).trans rfl
          have n2 : wc.cell? ⟨bc, 2, none⟩ = some (.int .i64 xg.f2) := (blk_cell hN12'.out 2).trans rfl
          have n3 : wc.cell? ⟨bc, 3, none⟩ = some (.int .i64 xg.f3) := (blk_cell hN12'.out 3).trans rfl
          have n4 : wc.cell? ⟨bc, 4, none⟩ = some (.bool xg.f4) := (blk_cell hN12'.out 4).trans rfl
          have y1 : wc.cell? ⟨bY, 1, none⟩ = some (.slice Ay ys.length cy) := (blk_cell hY12.out 1).trans rfl
          have hyl2 : ys.length ≤ 1000 := by
           rw [hys.out, List.length_map, List.length_take]; omega
          have hsz2 : W6.heap.size ≤ wc.heap.size := by have := hz12.out; omega
          have HR12 : Aside0 (Kd.R k70 70 wc W6.heap.size (fun _ => True) (.slice Ay ys.length cy) ys) := ⟨Kd.R_mono hR12.out (fun _ _ => trivial)⟩
          go_upto_region 8 with ((with_reducible refine gate_builtin (b := .append) (xs := #[.tmp 126, .tmp 128]) rfl ?_); at_builtin; refine Kd.R_append k70 (w0 := wc) W6.heap.size rfl (.tmp 126) (.tmp 128) 22 70 (.agg #[(.int .i64 0), (.int .i64 0), (.int .i64 0), (.int .i64 0), (.bool false)]) 40 rfl Try.underlying22 info70 rfl (by decide) (by decide) (.slice Ay ys.length cy) ys xg [.int .i64 xg.f0, .int .i64 xg.f1, .int .i64 xg.f2, .int .i64 xg.f3, .bool xg.f4] (fun _ => True) (fun _ => False) rfl rfl (k70_mkM _ _ _ xg) (fun _ hk => hk.elim) (fun _ _ => trivial) HR12.out (Below.refl _ _) hsz2 ?hl ?_; (case hl => omega); intro v1 w3 h1 h2 h3 h4; obtain ⟨Ay2, cy2, rfl⟩ := Kd.R_slice h1; have H13 := Aside0.mk h1; have hB13 := Aside0.mk h2; have HY13 := Aside0.mk ((h2.block bY (by omega)).trans hY12.out); have y1' : w3.cell? ⟨bY, 1, none⟩ = some (.slice Ay ys.length cy) := (blk_cell HY13.out 1).trans rfl; have y2' := blk_frozen HY13.out 1; clear h1 h2 h3 h4)
          have HX13 := Aside0.mk (blk_put HY13.out 1 (.slice Ay2 (ys ++ [xg]).length cy2) (cs' := #[.int .i64 a, .slice Ay2 (ys ++ [xg]).length cy2]) rfl)
          obtain ⟨zg, hzg⟩ : ∃ z, (if sw i = true then swapG x else x) = z := ⟨_, rfl⟩
          rw [hzg] at hG12
          have HN : Hid ((xs.set i zg).length = y0.length ∧ (xs.set i zg).take (i + 1) ++ swapsX sw (i + 1) (y0.drop (i + 1)) = X0 ∧ (xs.set i zg).drop (i + 1) = y0.drop (i + 1)) := by
           have hxl := hxs.out.1
           refine ⟨by rw [List.length_set]; exact hxl, ?_, ?_⟩
           ·
            rw [List.take_succ_eq_append_getElem (by rw [List.length_set]; omega), List.getElem_set_self, List.take_set_of_le (Nat.le_refl i), List.append_assoc, List.singleton_append]
            have h1 := hxs.out.2.1
            rw [drop70 y0 i hlt, ← HS1.out, swapsX, hzg] at h1
            exact h1
           ·
            rw [List.drop_set_of_lt (by omega)]
            exact HS2.out
          have HYN : Aside0 (ys ++ [xg] = (y0.take (i + 1)).map (onG a m)) := ⟨by
           have h1 : rd_T70 y0 (i : Int) = y0[i] := by
            unfold rd_T70
            rw [Int.toNat_natCast, List.getD_eq_getElem?_getD, List.getElem?_eq_getElem hlt]
            rfl
           rw [List.take_succ_eq_append_getElem hlt, List.map_append, ← hys.out, List.map_cons, List.map_nil, ← h1, ← HS1.out, HXG.out]⟩
          have hB14 : Aside0 (Below w.heap.size w (w3.setCell ⟨bY, 1, none⟩ (.slice Ay2 (ys ++ [xg]).length cy2))) := ⟨(hB12.out.trans (hB13.out.mono (by omega))).setCell (by show w.heap.size ≤ bY; omega) _⟩
          have hG14 := Aside0.mk ((hG12.out.same (hB13.out.block g (by omega))).same (Below.heap_setCell w3 ⟨bY, 1, none⟩ (.slice Ay2 (ys ++ [xg]).length cy2) g (by show g ≠ bY; omega)))
          have hX14 := Aside0.mk ((Below.heap_setCell w3 ⟨bY, 1, none⟩ (.slice Ay2 (ys ++ [xg]).length cy2) bx (by show bx ≠ bY; omega)).trans ((hB13.out.block bx (by omega)).trans hX12.out))
          have hL14 := Aside0.mk ((Below.heap_setCell w3 ⟨bY, 1, none⟩ (.slice Ay2 (ys ++ [xg]).length cy2) w.heap.size (by show w.heap.size ≠ bY; omega)).trans ((hB13.out.block w.heap.size (by omega)).trans hL12.out))
          have hR14 : Aside0 (Kd.R k70 70 (w3.setCell ⟨bY, 1, none⟩ (.slice Ay2 (ys ++ [xg]).length cy2)) W6.heap.size (fun _ => True) (.slice Ay2 (ys ++ [xg]).length cy2) (ys ++ [xg])) := ⟨Kd.R_set H13.out HY13.out (by decide) 1 _⟩
          have hz14 : Aside0 (W6.heap.size ≤ (w3.setCell ⟨bY, 1, none⟩ (.slice Ay2 (ys ++ [xg]).length cy2)).heap.size) := ⟨Nat.le_trans hsz2 (((hB13.out.mono (Nat.zero_le _)).setCell (p := ⟨bY, 1, none⟩) (Nat.zero_le _) (.slice Ay2 (ys ++ [xg]).length cy2)).size)⟩
          obtain ⟨W9z, hW9z⟩ : ∃ W, W = w3.setCell ⟨bY, 1, none⟩ (.slice Ay2 (ys ++ [xg]).length cy2) := ⟨_, rfl⟩
          rw [← hW9z] at hB14 hG14 hX14 hL14 hR14 hz14 HX13
          have hlen : ys.length + 1 = (ys ++ [xg]).length := by simp
          rw [hlen, ← hW9z]
          clear hlen hW9z H13 hB13 HY13 y1 n0 n1 n2 n3 n4 hG12 hX12 hY12 hL12 hN12' hR12 HR12 hB12 hz12 hzg hxs hys hsz2 hyl2
          go_wp2
          go_roundw
          case rel => exact ⟨i + 1, xs.set i zg, ys ++ [xg], Ay2, cy2, by omega, by simp, ⟨HN.out⟩, HYN, hG14, hX14, HX13, hL14, hR14, hB14, hz14⟩
          case measure => simp [intOf]; omega
       ·
        rename World => wz
        obtain rfl : i = y0.length := by omega
        have hxl := hxs.out.1
        have hXe : xs = X0 := by
         have := hxs.out.2.1
         rw [List.drop_length, ← hxl, List.take_length, show swapsX sw xs.length [] = [] from rfl, List.append_nil] at this
         exact this
        have hYe : ys = y0.map (onG a m) := by
         have := hys.out
         rw [List.take_length] at this
         exact this
        have hXl : X0.length = y0.length := by rw [← hXe]; exact hxl
        rw [hXe] at hGr
        clear hXe hxs
        have HCX : Aside0 (Kd.C k70 wz (some ⟨g, 0, none⟩) y0.length X0) := ⟨by rw [← hXl]; exact hGr.out.C (by omega)⟩
        have HCY : Aside0 (Kd.C k70 wz Ay ys.length ys) := ⟨(Kd.R_reads' hRr.out).2.2⟩
        have hcy : ys.length ≤ cy := (Kd.R_reads' hRr.out).2.1
        have hyl3 : ys.length = l.length := by rw [hYe, List.length_map]; exact hyl
        obtain ⟨L, hLL⟩ : ∃ X, l.map toG = X := ⟨_, rfl⟩
        obtain ⟨LX, hLX⟩ : ∃ X, X0.map toG = X := ⟨_, rfl⟩
        obtain ⟨LY, hLY⟩ : ∃ X, ys.map toG = X := ⟨_, rfl⟩
        have hof := order_facts HCK.out sw k m hm0 hma rules LX LY (by rw [← HY0.out, HX0.out]; exact hLX) (by rw [← HY0.out, ← hYe]; exact hLY)
        rw [hLL] at hof
        have HCKL : Hid (checkF a L = 0) := by
         have := HCK.out
         rw [hLL] at this
         exact this
        obtain ⟨hckx, hcky, hrk, hfa⟩ := hof
        have HCKX := Lib.hid hckx
        have HCKY := Lib.hid hcky
        have HCOPYX : Hid (∀ W, Kd.C k70 W (some ⟨g, 0, none⟩) y0.length X0 → Calls Try.prog 18 #[.agg #[.int .i64 a, .slice (some ⟨g, 0, none⟩) y0.length cx]] W fun e w' => ∃ A' c', e = .returned (.agg #[.int .i64 a, .slice A' LX.length c']) ∧ Kd.C k85 w' A' LX.length LX ∧ LX.length ≤ c' ∧ Below W.heap.size W w') := by
         intro W hW
         rw [← hXl] at hW ⊢
         exact copy_calls a _ cx X0 LX hLX W (by omega) hW (by have := HCXX.out; omega)
        have HCOPYY : Hid (∀ W, Kd.C k70 W Ay ys.length ys → Calls Try.prog 18 #[.agg #[.int .i64 a, .slice Ay ys.length cy]] W fun e w' => ∃ A' c', e = .returned (.agg #[.int .i64 a, .slice A' LY.length c']) ∧ Kd.C k85 w' A' LY.length LY ∧ LY.length ≤ c' ∧ Below W.heap.size W w') := fun W hW => copy_calls a _ cy ys LY hLY W (by omega) hW hcy
        have HLL := Lib.hid hLL
        obtain ⟨rs, hrs⟩ : ∃ rs, rankOf a L rules = rs := ⟨_, rfl⟩
        obtain ⟨rc, hrc⟩ : ∃ rc, rankOf a LY rules = rc := ⟨_, rfl⟩
        have hrsl : rs.length = a.toNat := by rw [← hrs]; exact rankOf_len2 _ _ _
        have hrcl : rc.length = a.toNat := by rw [← hrc]; exact rankOf_len2 _ _ _
        have HRSX : Hid (rankOf a LX rules = rs) := by rw [hrk]; exact hrs
        have HRS := Lib.hid hrs
        have HRC := Lib.hid hrc
        rw [hrs, hrc] at hfa
        have HFA := Lib.hid hfa
        have bl : ((rc.length : Int) != (rs.length : Int)) = false := bne_eq_false_iff_eq.2 (by omega)
        have HRL := Lib.hid (show rs.length = a.toNat ∧ rc.length = a.toNat from ⟨hrsl, hrcl⟩)
        clear hrs hrc hrk hfa hrsl hrcl hckx hcky hLX hLY hLL hYe hys hxl hXl hyl3 hcy hyl
        have HD := Aside0.mk (Below.refl wz.heap.size wz)
        have gc0 : wz.cell? ⟨w.heap.size, 0, none⟩ = some (.int .i64 a) := (blk_cell (blk_below hLr.out HD.out) 0).trans rfl
        have gc1 : wz.cell? ⟨w.heap.size, 1, none⟩ = some (.slice (some ad) l.length c) := (blk_cell (blk_below hLr.out HD.out) 1).trans rfl
        have xc0 : wz.cell? ⟨bx, 0, none⟩ = some (.int .i64 a) := (blk_cell (blk_below hXr.out HD.out) 0).trans rfl
        have xc1 : wz.cell? ⟨bx, 1, none⟩ = some (.slice (some ⟨g, 0, none⟩) y0.length cx) := (blk_cell (blk_below hXr.out HD.out) 1).trans rfl
        have rc0 : wz.cell? ⟨bY, 0, none⟩ = some (.int .i64 a) := (blk_cell (blk_below hYr.out HD.out) 0).trans rfl
        have rc1 : wz.cell? ⟨bY, 1, none⟩ = some (.slice Ay ys.length cy) := (blk_cell (blk_below hYr.out HD.out) 1).trans rfl
        clear hkl hk1 hk2 hlc hck hck2 hk3
        go_upto_region 15 with (first
         | (go_at_call 18; (with_reducible refine (copy_calls a _ _ l L HLL.out _ HL.out ?hr HC.out).mono ?_); (case hr => exact Kd.C_below (Kd.C_below HR.out hBr.out) HD.out); rintro e w1 ⟨A1, c1, rfl, hR1, hc1, hb1⟩; have n1_ := Aside0.mk (below_step HD.out hb1); clear HD; (try clear gc0 gc1 xc0 xc1 rc0 rc1); have HD := n1_; clear n1_; have gc0 : w1.cell? ⟨w.heap.size, 0, none⟩ = some (.int .i64 a) := (blk_cell (blk_below hLr.out HD.out) 0).trans rfl; have gc1 : w1.cell? ⟨w.heap.size, 1, none⟩ = some (.slice (some ad) l.length c) := (blk_cell (blk_below hLr.out HD.out) 1).trans rfl; have xc0 : w1.cell? ⟨bx, 0, none⟩ = some (.int .i64 a) := (blk_cell (blk_below hXr.out HD.out) 0).trans rfl; have xc1 : w1.cell? ⟨bx, 1, none⟩ = some (.slice (some ⟨g, 0, none⟩) y0.length cx) := (blk_cell (blk_below hXr.out HD.out) 1).trans rfl; have rc0 : w1.cell? ⟨bY, 0, none⟩ = some (.int .i64 a) := (blk_cell (blk_below hYr.out HD.out) 0).trans rfl; have rc1 : w1.cell? ⟨bY, 1, none⟩ = some (.slice Ay ys.length cy) := (blk_cell (blk_below hYr.out HD.out) 1).trans rfl; have HR1 := Aside0.mk hR1; have HC1 := Aside0.mk hc1; clear hb1 hR1 hc1)
         | (go_at_call 20; (with_reducible refine (codes_calls' rules hrl6 _ _ _ ?hr HCR.out).mono ?_); (case hr => exact Kd.C_below (Kd.C_below HRR.out hBr.out) HD.out); rintro e w1 ⟨A2, c2, rfl, hR2, hc2, hb1⟩; have n1_ := Aside0.mk (below_step HD.out hb1); clear HD; (try clear gc0 gc1 xc0 xc1 rc0 rc1); have HD := n1_; clear n1_; have gc0 : w1.cell? ⟨w.heap.size, 0, none⟩ = some (.int .i64 a) := (blk_cell (blk_below hLr.out HD.out) 0).trans rfl; have gc1 : w1.cell? ⟨w.heap.size, 1, none⟩ = some (.slice (some ad) l.length c) := (blk_cell (blk_below hLr.out HD.out) 1).trans rfl; have xc0 : w1.cell? ⟨bx, 0, none⟩ = some (.int .i64 a) := (blk_cell (blk_below hXr.out HD.out) 0).trans rfl; have xc1 : w1.cell? ⟨bx, 1, none⟩ = some (.slice (some ⟨g, 0, none⟩) y0.length cx) := (blk_cell (blk_below hXr.out HD.out) 1).trans rfl; have rc0 : w1.cell? ⟨bY, 0, none⟩ = some (.int .i64 a) := (blk_cell (blk_below hYr.out HD.out) 0).trans rfl; have rc1 : w1.cell? ⟨bY, 1, none⟩ = some (.slice Ay ys.length cy) := (blk_cell (blk_below hYr.out HD.out) 1).trans rfl; have n3_ := Aside0.mk (Kd.C_below HR1.out hb1); clear HR1; have HR1 := n3_; clear n3_; have HR2 := Aside0.mk hR2; have HC2 := Aside0.mk hc2; clear hb1 hR2 hc2)
         | (go_at_call 19; (with_reducible refine (rank_calls' a _ _ L _ HR1.out HC1.out HCKL.out rules hrl6 HLB.out _ _ HR2.out HC2.out rs HRS.out).mono ?_); rintro e w1 ⟨A3, c3, rfl, hR3, hc3, hb1⟩; have n1_ := Aside0.mk (below_step HD.out hb1); clear HD; (try clear gc0 gc1 xc0 xc1 rc0 rc1); have HD := n1_; clear n1_; have gc0 : w1.cell? ⟨w.heap.size, 0, none⟩ = some (.int .i64 a) := (blk_cell (blk_below hLr.out HD.out) 0).trans rfl; have gc1 : w1.cell? ⟨w.heap.size, 1, none⟩ = some (.slice (some ad) l.length c) := (blk_cell (blk_below hLr.out HD.out) 1).trans rfl; have xc0 : w1.cell? ⟨bx, 0, none⟩ = some (.int .i64 a) := (blk_cell (blk_below hXr.out HD.out) 0).trans rfl; have xc1 : w1.cell? ⟨bx, 1, none⟩ = some (.slice (some ⟨g, 0, none⟩) y0.length cx) := (blk_cell (blk_below hXr.out HD.out) 1).trans rfl; have rc0 : w1.cell? ⟨bY, 0, none⟩ = some (.int .i64 a) := (blk_cell (blk_below hYr.out HD.out) 0).trans rfl; have rc1 : w1.cell? ⟨bY, 1, none⟩ = some (.slice Ay ys.length cy) := (blk_cell (blk_below hYr.out HD.out) 1).trans rfl; have HRa := Aside0.mk hR3; have HCa := Aside0.mk hc3; clear hb1 hR3 hc3 HR1 HC1 HR2 HC2)
         | fail)
        go_upto_region 16 with (first
         | (go_at_call 18; (with_reducible refine (HCOPYX.out _ ?hr).mono ?_); (case hr => exact Kd.C_below HCX.out HD.out); rintro e w1 ⟨A1, c1, rfl, hR1, hc1, hb1⟩; have n1_ := Aside0.mk (below_step HD.out hb1); clear HD; (try clear gc0 gc1 xc0 xc1 rc0 rc1); have HD := n1_; clear n1_; have gc0 : w1.cell? ⟨w.heap.size, 0, none⟩ = some (.int .i64 a) := (blk_cell (blk_below hLr.out HD.out) 0).trans rfl; have gc1 : w1.cell? ⟨w.heap.size, 1, none⟩ = some (.slice (some ad) l.length c) := (blk_cell (blk_below hLr.out HD.out) 1).trans rfl; have xc0 : w1.cell? ⟨bx, 0, none⟩ = some (.int .i64 a) := (blk_cell (blk_below hXr.out HD.out) 0).trans rfl; have xc1 : w1.cell? ⟨bx, 1, none⟩ = some (.slice (some ⟨g, 0, none⟩) y0.length cx) := (blk_cell (blk_below hXr.out HD.out) 1).trans rfl; have rc0 : w1.cell? ⟨bY, 0, none⟩ = some (.int .i64 a) := (blk_cell (blk_below hYr.out HD.out) 0).trans rfl; have rc1 : w1.cell? ⟨bY, 1, none⟩ = some (.slice Ay ys.length cy) := (blk_cell (blk_below hYr.out HD.out) 1).trans rfl; have n3_ := Aside0.mk (Kd.C_below HRa.out hb1); clear HRa; have HRa := n3_; clear n3_; have HR1 := Aside0.mk hR1; have HC1 := Aside0.mk hc1; clear hb1 hR1 hc1)
         | (go_at_call 20; (with_reducible refine (codes_calls' rules hrl6 _ _ _ ?hr HCR.out).mono ?_); (case hr => exact Kd.C_below (Kd.C_below HRR.out hBr.out) HD.out); rintro e w1 ⟨A2, c2, rfl, hR2, hc2, hb1⟩; have n1_ := Aside0.mk (below_step HD.out hb1); clear HD; (try clear gc0 gc1 xc0 xc1 rc0 rc1); have HD := n1_; clear n1_; have gc0 : w1.cell? ⟨w.heap.size, 0, none⟩ = some (.int .i64 a) := (blk_cell (blk_below hLr.out HD.out) 0).trans rfl; have gc1 : w1.cell? ⟨w.heap.size, 1, none⟩ = some (.slice (some ad) l.length c) := (blk_cell (blk_below hLr.out HD.out) 1).trans rfl; have xc0 : w1.cell? ⟨bx, 0, none⟩ = some (.int .i64 a) := (blk_cell (blk_below hXr.out HD.out) 0).trans rfl; have xc1 : w1.cell? ⟨bx, 1, none⟩ = some (.slice (some ⟨g, 0, none⟩) y0.length cx) := (blk_cell (blk_below hXr.out HD.out) 1).trans rfl; have rc0 : w1.cell? ⟨bY, 0, none⟩ = some (.int .i64 a) := (blk_cell (blk_below hYr.out HD.out) 0).trans rfl; have rc1 : w1.cell? ⟨bY, 1, none⟩ = some (.slice Ay ys.length cy) := (blk_cell (blk_below hYr.out HD.out) 1).trans rfl; have n3_ := Aside0.mk (Kd.C_below HR1.out hb1); clear HR1; have HR1 := n3_; clear n3_; have n3_ := Aside0.mk (Kd.C_below HRa.out hb1); clear HRa; have HRa := n3_; clear n3_; have HR2 := Aside0.mk hR2; have HC2 := Aside0.mk hc2; clear hb1 hR2 hc2)
         | (go_at_call 19; (with_reducible refine (rank_calls' a _ _ LX _ HR1.out HC1.out HCKX.out rules hrl6 HLB.out _ _ HR2.out HC2.out rs HRSX.out).mono ?_); rintro e w1 ⟨A3, c3, rfl, hR3, hc3, hb1⟩; have n1_ := Aside0.mk (below_step HD.out hb1); clear HD; (try clear gc0 gc1 xc0 xc1 rc0 rc1); have HD := n1_; clear n1_; have gc0 : w1.cell? ⟨w.heap.size, 0, none⟩ = some (.int .i64 a) := (blk_cell (blk_below hLr.out HD.out) 0).trans rfl; have gc1 : w1.cell? ⟨w.heap.size, 1, none⟩ = some (.slice (some ad) l.length c) := (blk_cell (blk_below hLr.out HD.out) 1).trans rfl; have xc0 : w1.cell? ⟨bx, 0, none⟩ = some (.int .i64 a) := (blk_cell (blk_below hXr.out HD.out) 0).trans rfl; have xc1 : w1.cell? ⟨bx, 1, none⟩ = some (.slice (some ⟨g, 0, none⟩) y0.length cx) := (blk_cell (blk_below hXr.out HD.out) 1).trans rfl; have rc0 : w1.cell? ⟨bY, 0, none⟩ = some (.int .i64 a) := (blk_cell (blk_below hYr.out HD.out) 0).trans rfl; have rc1 : w1.cell? ⟨bY, 1, none⟩ = some (.slice Ay ys.length cy) := (blk_cell (blk_below hYr.out HD.out) 1).trans rfl; have n3_ := Aside0.mk (Kd.C_below HRa.out hb1); clear HRa; have HRa := n3_; clear n3_; have HRb := Aside0.mk hR3; have HCb := Aside0.mk hc3; clear hb1 hR3 hc3 HR1 HC1 HR2 HC2)
         | fail)
        go_upto_region 17 with (first
         | (go_at_call 18; (with_reducible refine (HCOPYY.out _ ?hr).mono ?_); (case hr => exact Kd.C_below HCY.out HD.out); rintro e w1 ⟨A1, c1, rfl, hR1, hc1, hb1⟩; have n1_ := Aside0.mk (below_step HD.out hb1); clear HD; (try clear gc0 gc1 xc0 xc1 rc0 rc1); have HD := n1_; clear n1_; have gc0 : w1.cell? ⟨w.heap.size, 0, none⟩ = some (.int .i64 a) := (blk_cell (blk_below hLr.out HD.out) 0).trans rfl; have gc1 : w1.cell? ⟨w.heap.size, 1, none⟩ = some (.slice (some ad) l.length c) := (blk_cell (blk_below hLr.out HD.out) 1).trans rfl; have xc0 : w1.cell? ⟨bx, 0, none⟩ = some (.int .i64 a) := (blk_cell (blk_below hXr.out HD.out) 0).trans rfl; have xc1 : w1.cell? ⟨bx, 1, none⟩ = some (.slice (some ⟨g, 0, none⟩) y0.length cx) := (blk_cell (blk_below hXr.out HD.out) 1).trans rfl; have rc0 : w1.cell? ⟨bY, 0, none⟩ = some (.int .i64 a) := (blk_cell (blk_below hYr.out HD.out) 0).trans rfl; have rc1 : w1.cell? ⟨bY, 1, none⟩ = some (.slice Ay ys.length cy) := (blk_cell (blk_below hYr.out HD.out) 1).trans rfl; have n3_ := Aside0.mk (Kd.C_below HRa.out hb1); clear HRa; have HRa := n3_; clear n3_; have n3_ := Aside0.mk (Kd.C_below HRb.out hb1); clear HRb; have HRb := n3_; clear n3_; have HR1 := Aside0.mk hR1; have HC1 := Aside0.mk hc1; clear hb1 hR1 hc1)
         | (go_at_call 20; (with_reducible refine (codes_calls' rules hrl6 _ _ _ ?hr HCR.out).mono ?_); (case hr => exact Kd.C_below (Kd.C_below HRR.out hBr.out) HD.out); rintro e w1 ⟨A2, c2, rfl, hR2, hc2, hb1⟩; have n1_ := Aside0.mk (below_step HD.out hb1); clear HD; (try clear gc0 gc1 xc0 xc1 rc0 rc1); have HD := n1_; clear n1_; have gc0 : w1.cell? ⟨w.heap.size, 0, none⟩ = some (.int .i64 a) := (blk_cell (blk_below hLr.out HD.out) 0).trans rfl; have gc1 : w1.cell? ⟨w.heap.size, 1, none⟩ = some (.slice (some ad) l.length c) := (blk_cell (blk_below hLr.out HD.out) 1).trans rfl; have xc0 : w1.cell? ⟨bx, 0, none⟩ = some (.int .i64 a) := (blk_cell (blk_below hXr.out HD.out) 0).trans rfl; have xc1 : w1.cell? ⟨bx, 1, none⟩ = some (.slice (some ⟨g, 0, none⟩) y0.length cx) := (blk_cell (blk_below hXr.out HD.out) 1).trans rfl; have rc0 : w1.cell? ⟨bY, 0, none⟩ = some (.int .i64 a) := (blk_cell (blk_below hYr.out HD.out) 0).trans rfl; have rc1 : w1.cell? ⟨bY, 1, none⟩ = some (.slice Ay ys.length cy) := (blk_cell (blk_below hYr.out HD.out) 1).trans rfl; have n3_ := Aside0.mk (Kd.C_below HR1.out hb1); clear HR1; have HR1 := n3_; clear n3_; have n3_ := Aside0.mk (Kd.C_below HRa.out hb1); clear HRa; have HRa := n3_; clear n3_; have n3_ := Aside0.mk (Kd.C_below HRb.out hb1); clear HRb; have HRb := n3_; clear n3_; have HR2 := Aside0.mk hR2; have HC2 := Aside0.mk hc2; clear hb1 hR2 hc2)
         | (go_at_call 19; (with_reducible refine (rank_calls' a _ _ LY _ HR1.out HC1.out HCKY.out rules hrl6 HLB.out _ _ HR2.out HC2.out rc HRC.out).mono ?_); rintro e w1 ⟨A3, c3, rfl, hR3, hc3, hb1⟩; have n1_ := Aside0.mk (below_step HD.out hb1); clear HD; (try clear gc0 gc1 xc0 xc1 rc0 rc1); have HD := n1_; clear n1_; have gc0 : w1.cell? ⟨w.heap.size, 0, none⟩ = some (.int .i64 a) := (blk_cell (blk_below hLr.out HD.out) 0).trans rfl; have gc1 : w1.cell? ⟨w.heap.size, 1, none⟩ = some (.slice (some ad) l.length c) := (blk_cell (blk_below hLr.out HD.out) 1).trans rfl; have xc0 : w1.cell? ⟨bx, 0, none⟩ = some (.int .i64 a) := (blk_cell (blk_below hXr.out HD.out) 0).trans rfl; have xc1 : w1.cell? ⟨bx, 1, none⟩ = some (.slice (some ⟨g, 0, none⟩) y0.length cx) := (blk_cell (blk_below hXr.out HD.out) 1).trans rfl; have rc0 : w1.cell? ⟨bY, 0, none⟩ = some (.int .i64 a) := (blk_cell (blk_below hYr.out HD.out) 0).trans rfl; have rc1 : w1.cell? ⟨bY, 1, none⟩ = some (.slice Ay ys.length cy) := (blk_cell (blk_below hYr.out HD.out) 1).trans rfl; have n3_ := Aside0.mk (Kd.C_below HRa.out hb1); clear HRa; have HRa := n3_; clear n3_; have n3_ := Aside0.mk (Kd.C_below HRb.out hb1); clear HRb; have HRb := n3_; clear n3_; have HRc := Aside0.mk hR3; have HCc := Aside0.mk hc3; clear hb1 hR3 hc3 HR1 HC1 HR2 HC2)
         | fail)
        go_wp2_with (first
         | (go_at_call 23; (with_reducible refine (ints_calls' rs (by have := HRL.out; omega) _ _ _ HRa.out HCa.out _ _ HRb.out HCb.out).mono ?_); rintro e w1 ⟨rfl, hb1⟩; have n1_ := Aside0.mk (below_step HD.out hb1); clear HD; (try clear gc0 gc1 xc0 xc1 rc0 rc1); have HD := n1_; clear n1_; have gc0 : w1.cell? ⟨w.heap.size, 0, none⟩ = some (.int .i64 a) := (blk_cell (blk_below hLr.out HD.out) 0).trans rfl; have gc1 : w1.cell? ⟨w.heap.size, 1, none⟩ = some (.slice (some ad) l.length c) := (blk_cell (blk_below hLr.out HD.out) 1).trans rfl; have xc0 : w1.cell? ⟨bx, 0, none⟩ = some (.int .i64 a) := (blk_cell (blk_below hXr.out HD.out) 0).trans rfl; have xc1 : w1.cell? ⟨bx, 1, none⟩ = some (.slice (some ⟨g, 0, none⟩) y0.length cx) := (blk_cell (blk_below hXr.out HD.out) 1).trans rfl; have rc0 : w1.cell? ⟨bY, 0, none⟩ = some (.int .i64 a) := (blk_cell (blk_below hYr.out HD.out) 0).trans rfl; have rc1 : w1.cell? ⟨bY, 1, none⟩ = some (.slice Ay ys.length cy) := (blk_cell (blk_below hYr.out HD.out) 1).trans rfl; have n3_ := Aside0.mk (Kd.C_below HRa.out hb1); clear HRa; have HRa := n3_; clear n3_; have n3_ := Aside0.mk (Kd.C_below HRb.out hb1); clear HRb; have HRb := n3_; clear n3_; have n3_ := Aside0.mk (Kd.C_below HRc.out hb1); clear HRc; have HRc := n3_; clear n3_; clear hb1)
         | fail)
        obtain ⟨w6, hw6⟩ : ∃ W, W = w1 := ⟨_, rfl⟩
        rw [← hw6] at HD HRa HRb HRc gc0 gc1 xc0 xc1 rc0 rc1
        rw [← hw6]
        have HD6 := HD
        go_loopw [19] (fun v wr => ∃ t : Nat, (t : Int) ≤ a ∧ v = .int .i64 t ∧ Aside0 (Below w6.heap.size w6 wr)) (fun v _ => (a - intOf v).toNat)
        case atStart => exact ⟨0, by omega, rfl, ⟨Below.refl _ _⟩⟩
        case round =>
         obtain ⟨t, ht, rfl, hBs⟩ := hrel
         clear HD
         have HD : Aside0 (Below wz.heap.size wz wr) := ⟨below_step HD6.out hBs.out⟩
         have gc0 : wr.cell? ⟨w.heap.size, 0, none⟩ = some (.int .i64 a) := (blk_cell (blk_below hLr.out HD.out) 0).trans rfl
         have gc1 : wr.cell? ⟨w.heap.size, 1, none⟩ = some (.slice (some ad) l.length c) := (blk_cell (blk_below hLr.out HD.out) 1).trans rfl
         have xc0 : wr.cell? ⟨bx, 0, none⟩ = some (.int .i64 a) := (blk_cell (blk_below hXr.out HD.out) 0).trans rfl
         have xc1 : wr.cell? ⟨bx, 1, none⟩ = some (.slice (some ⟨g, 0, none⟩) y0.length cx) := (blk_cell (blk_below hXr.out HD.out) 1).trans rfl
         have rc0 : wr.cell? ⟨bY, 0, none⟩ = some (.int .i64 a) := (blk_cell (blk_below hYr.out HD.out) 0).trans rfl
         have rc1 : wr.cell? ⟨bY, 1, none⟩ = some (.slice Ay ys.length cy) := (blk_cell (blk_below hYr.out HD.out) 1).trans rfl
         have HD0 := HD
         by_cases hlt : (t : Int) < a
         ·
          have ht0 : (0 : Int) ≤ t := by omega
          obtain ⟨f1, f2, f3⟩ := HFA.out (t : Int) ht0 hlt
          have hub : 0 ≤ onT a m (t : Int) ∧ onT a m (t : Int) < a := by unfold onT; split <;> omega
          have hut := on_tmod a m (t : Int) hm0 hma ht0 hlt
          obtain ⟨u, hu⟩ : ∃ u : Nat, onT a m (t : Int) = (u : Int) := ⟨(onT a m (t : Int)).toNat, by omega⟩
          rw [hu] at f1 f3 hub hut
          have hcan := can_first HCKL.out (t : Int) ht0 hlt
          have hcanx := can_first HCKX.out (t : Int) ht0 hlt
          have hcany := can_first HCKY.out (u : Int) hub.1 hub.2
          obtain ⟨⟨cc, e1⟩, hcc⟩ : ∃ x, canF a L t = x := ⟨_, rfl⟩
          obtain ⟨⟨dd, e2⟩, hdd⟩ : ∃ x, canF a LX t = x := ⟨_, rfl⟩
          obtain ⟨⟨ss, e3⟩, hss⟩ : ∃ x, canF a LY u = x := ⟨_, rfl⟩
          have z1 : e1 = 0 := by
           have := hcan.elim (fun h => h.2.1) (fun h => h.2.1)
           rw [hcc] at this
           exact this
          have z2 : e2 = 0 := by
           have := hcanx.elim (fun h => h.2.1) (fun h => h.2.1)
           rw [hdd] at this
           exact this
          have z3 : e3 = 0 := by
           have := hcany.elim (fun h => h.2.1) (fun h => h.2.1)
           rw [hss] at this
           exact this
          rw [hdd, hcc] at f2
          rw [hss, hcc] at f3
          dsimp only at f2 f3
          subst z1 z2 z3 f2 f3
          have HCAN := Lib.hid hcc
          have HCANX := Lib.hid hdd
          have HCANY := Lib.hid hss
          obtain ⟨rt, hrt⟩ : ∃ x, rd rs (t : Int) = x := ⟨_, rfl⟩
          rw [hrt] at f1
          have HRT := Lib.hid hrt
          have HRU := Lib.hid f1
          have hwt : IntKind.i64.wrap ((t : Int) + m) = (t : Int) + m := by unfold IntKind.wrap; simp [IntKind.bits, IntKind.signed]; omega
          have HE := Aside0.mk (Below.refl wr.heap.size wr)
          have HUB := Lib.hid hub
          clear hcan hcanx hcany hcc hdd hss hrt f1 hu hub
          go_upto_region 23 with (first
           | (go_at_call 18; (with_reducible refine (copy_calls a _ _ l L HLL.out _ HL.out ?hr HC.out).mono ?_); (case hr => exact Kd.C_below (Kd.C_below HR.out hBr.out) HD.out); rintro e w1 ⟨A1, c1, rfl, hR1, hc1, hb1⟩; have n1_ := Aside0.mk (below_step HD.out hb1); clear HD; (try clear gc0 gc1 xc0 xc1 rc0 rc1); have HD := n1_; clear n1_; have gc0 : w1.cell? ⟨w.heap.size, 0, none⟩ = some (.int .i64 a) := (blk_cell (blk_below hLr.out HD.out) 0).trans rfl; have gc1 : w1.cell? ⟨w.heap.size, 1, none⟩ = some (.slice (some ad) l.length c) := (blk_cell (blk_below hLr.out HD.out) 1).trans rfl; have xc0 : w1.cell? ⟨bx, 0, none⟩ = some (.int .i64 a) := (blk_cell (blk_below hXr.out HD.out) 0).trans rfl; have xc1 : w1.cell? ⟨bx, 1, none⟩ = some (.slice (some ⟨g, 0, none⟩) y0.length cx) := (blk_cell (blk_below hXr.out HD.out) 1).trans rfl; have rc0 : w1.cell? ⟨bY, 0, none⟩ = some (.int .i64 a) := (blk_cell (blk_below hYr.out HD.out) 0).trans rfl; have rc1 : w1.cell? ⟨bY, 1, none⟩ = some (.slice Ay ys.length cy) := (blk_cell (blk_below hYr.out HD.out) 1).trans rfl; have n2_ := Aside0.mk (below_step HE.out hb1); clear HE; have HE := n2_; clear n2_; have HR1 := Aside0.mk hR1; have HC1 := Aside0.mk hc1; clear hb1 hR1 hc1)
           | (go_at_call 43; (with_reducible refine (can_calls' a _ _ _ (t : Int) _ HR1.out HC1.out ss 0 HCAN.out).mono ?_); rintro e w1 ⟨rfl, hb1⟩; have n1_ := Aside0.mk (below_step HD.out hb1); clear HD; (try clear gc0 gc1 xc0 xc1 rc0 rc1); have HD := n1_; clear n1_; have gc0 : w1.cell? ⟨w.heap.size, 0, none⟩ = some (.int .i64 a) := (blk_cell (blk_below hLr.out HD.out) 0).trans rfl; have gc1 : w1.cell? ⟨w.heap.size, 1, none⟩ = some (.slice (some ad) l.length c) := (blk_cell (blk_below hLr.out HD.out) 1).trans rfl; have xc0 : w1.cell? ⟨bx, 0, none⟩ = some (.int .i64 a) := (blk_cell (blk_below hXr.out HD.out) 0).trans rfl; have xc1 : w1.cell? ⟨bx, 1, none⟩ = some (.slice (some ⟨g, 0, none⟩) y0.length cx) := (blk_cell (blk_below hXr.out HD.out) 1).trans rfl; have rc0 : w1.cell? ⟨bY, 0, none⟩ = some (.int .i64 a) := (blk_cell (blk_below hYr.out HD.out) 0).trans rfl; have rc1 : w1.cell? ⟨bY, 1, none⟩ = some (.slice Ay ys.length cy) := (blk_cell (blk_below hYr.out HD.out) 1).trans rfl; have n2_ := Aside0.mk (below_step HE.out hb1); clear HE; have HE := n2_; clear n2_; clear hb1 HR1 HC1)
           | fail)
          go_upto_region 24 with (first
           | (go_at_call 18; (with_reducible refine (HCOPYX.out _ ?hr).mono ?_); (case hr => exact Kd.C_below HCX.out HD.out); rintro e w1 ⟨A1, c1, rfl, hR1, hc1, hb1⟩; have n1_ := Aside0.mk (below_step HD.out hb1); clear HD; (try clear gc0 gc1 xc0 xc1 rc0 rc1); have HD := n1_; clear n1_; have gc0 : w1.cell? ⟨w.heap.size, 0, none⟩ = some (.int .i64 a) := (blk_cell (blk_below hLr.out HD.out) 0).trans rfl; have gc1 : w1.cell? ⟨w.heap.size, 1, none⟩ = some (.slice (some ad) l.length c) := (blk_cell (blk_below hLr.out HD.out) 1).trans rfl; have xc0 : w1.cell? ⟨bx, 0, none⟩ = some (.int .i64 a) := (blk_cell (blk_below hXr.out HD.out) 0).trans rfl; have xc1 : w1.cell? ⟨bx, 1, none⟩ = some (.slice (some ⟨g, 0, none⟩) y0.length cx) := (blk_cell (blk_below hXr.out HD.out) 1).trans rfl; have rc0 : w1.cell? ⟨bY, 0, none⟩ = some (.int .i64 a) := (blk_cell (blk_below hYr.out HD.out) 0).trans rfl; have rc1 : w1.cell? ⟨bY, 1, none⟩ = some (.slice Ay ys.length cy) := (blk_cell (blk_below hYr.out HD.out) 1).trans rfl; have n2_ := Aside0.mk (below_step HE.out hb1); clear HE; have HE := n2_; clear n2_; have HR1 := Aside0.mk hR1; have HC1 := Aside0.mk hc1; clear hb1 hR1 hc1)
           | (go_at_call 43; (with_reducible refine (can_calls' a _ _ _ (t : Int) _ HR1.out HC1.out ss 0 HCANX.out).mono ?_); rintro e w1 ⟨rfl, hb1⟩; have n1_ := Aside0.mk (below_step HD.out hb1); clear HD; (try clear gc0 gc1 xc0 xc1 rc0 rc1); have HD := n1_; clear n1_; have gc0 : w1.cell? ⟨w.heap.size, 0, none⟩ = some (.int .i64 a) := (blk_cell (blk_below hLr.out HD.out) 0).trans rfl; have gc1 : w1.cell? ⟨w.heap.size, 1, none⟩ = some (.slice (some ad) l.length c) := (blk_cell (blk_below hLr.out HD.out) 1).trans rfl; have xc0 : w1.cell? ⟨bx, 0, none⟩ = some (.int .i64 a) := (blk_cell (blk_below hXr.out HD.out) 0).trans rfl; have xc1 : w1.cell? ⟨bx, 1, none⟩ = some (.slice (some ⟨g, 0, none⟩) y0.length cx) := (blk_cell (blk_below hXr.out HD.out) 1).trans rfl; have rc0 : w1.cell? ⟨bY, 0, none⟩ = some (.int .i64 a) := (blk_cell (blk_below hYr.out HD.out) 0).trans rfl; have rc1 : w1.cell? ⟨bY, 1, none⟩ = some (.slice Ay ys.length cy) := (blk_cell (blk_below hYr.out HD.out) 1).trans rfl; have n2_ := Aside0.mk (below_step HE.out hb1); clear HE; have HE := n2_; clear n2_; clear hb1 HR1 HC1)
           | fail)
          go_region_held3 (fun w' => w'.cell? ⟨bY, 0, none⟩ = some (.int .i64 a) ∧ w'.cell? ⟨bY, 1, none⟩ = some (.slice Ay ys.length cy) ∧ w'.cell? ⟨w.heap.size, 0, none⟩ = some (.int .i64 a)) (exact ⟨rc0, rc1, gc0⟩) (first
           | (go_at_call 18; have n0_ := Aside0.mk (below_drew1 HD.out); clear HD; have HD := n0_; clear n0_; have n0_ := Aside0.mk (below_drew1 HE.out); clear HE; have HE := n0_; clear n0_; (with_reducible refine (HCOPYY.out _ ?hr).mono ?_); (case hr => exact Kd.C_below HCY.out HD.out); rintro e w1 ⟨A1, c1, rfl, hR1, hc1, hb1⟩; have n1_ := Aside0.mk (below_step HD.out hb1); clear HD; (try clear gc0 gc1 xc0 xc1 rc0 rc1); have HD := n1_; clear n1_; have gc0 : w1.cell? ⟨w.heap.size, 0, none⟩ = some (.int .i64 a) := (blk_cell (blk_below hLr.out HD.out) 0).trans rfl; have gc1 : w1.cell? ⟨w.heap.size, 1, none⟩ = some (.slice (some ad) l.length c) := (blk_cell (blk_below hLr.out HD.out) 1).trans rfl; have xc0 : w1.cell? ⟨bx, 0, none⟩ = some (.int .i64 a) := (blk_cell (blk_below hXr.out HD.out) 0).trans rfl; have xc1 : w1.cell? ⟨bx, 1, none⟩ = some (.slice (some ⟨g, 0, none⟩) y0.length cx) := (blk_cell (blk_below hXr.out HD.out) 1).trans rfl; have rc0 : w1.cell? ⟨bY, 0, none⟩ = some (.int .i64 a) := (blk_cell (blk_below hYr.out HD.out) 0).trans rfl; have rc1 : w1.cell? ⟨bY, 1, none⟩ = some (.slice Ay ys.length cy) := (blk_cell (blk_below hYr.out HD.out) 1).trans rfl; have n2_ := Aside0.mk (below_step HE.out hb1); clear HE; have HE := n2_; clear n2_; have HR1 := Aside0.mk hR1; have HC1 := Aside0.mk hc1; clear hb1 hR1 hc1)
           | (go_at_call 43; (with_reducible refine (can_calls' a _ _ _ (u : Int) _ HR1.out HC1.out ss 0 HCANY.out).mono ?_); rintro e w1 ⟨rfl, hb1⟩; have n1_ := Aside0.mk (below_step HD.out hb1); clear HD; (try clear gc0 gc1 xc0 xc1 rc0 rc1); have HD := n1_; clear n1_; have gc0 : w1.cell? ⟨w.heap.size, 0, none⟩ = some (.int .i64 a) := (blk_cell (blk_below hLr.out HD.out) 0).trans rfl; have gc1 : w1.cell? ⟨w.heap.size, 1, none⟩ = some (.slice (some ad) l.length c) := (blk_cell (blk_below hLr.out HD.out) 1).trans rfl; have xc0 : w1.cell? ⟨bx, 0, none⟩ = some (.int .i64 a) := (blk_cell (blk_below hXr.out HD.out) 0).trans rfl; have xc1 : w1.cell? ⟨bx, 1, none⟩ = some (.slice (some ⟨g, 0, none⟩) y0.length cx) := (blk_cell (blk_below hXr.out HD.out) 1).trans rfl; have rc0 : w1.cell? ⟨bY, 0, none⟩ = some (.int .i64 a) := (blk_cell (blk_below hYr.out HD.out) 0).trans rfl; have rc1 : w1.cell? ⟨bY, 1, none⟩ = some (.slice Ay ys.length cy) := (blk_cell (blk_below hYr.out HD.out) 1).trans rfl; have n2_ := Aside0.mk (below_step HE.out hb1); clear HE; have HE := n2_; clear n2_; clear hb1 HR1 HC1)
           | fail)
          clear rc0 rc1 xc0 xc1 gc1
          obtain ⟨ad1, ead1, q0⟩ := Kd.at_int (Kd.C_below (Kd.C_below HRa.out hBs.out) HE.out) (t : Int) (by omega) (by have := HRL.out; omega)
          cases ead1
          rw [Int.toNat_natCast, HRT.out] at q0
          obtain ⟨ad2, ead2, q1⟩ := Kd.at_int (Kd.C_below (Kd.C_below HRc.out hBs.out) HE.out) (u : Int) (by omega) (by have := HRL.out; have := HUB.out; omega)
          cases ead2
          rw [Int.toNat_natCast, HRU.out] at q1
          have HEND : Aside0 (Below w6.heap.size w6 w1) := ⟨below_step hBs.out HE.out⟩
          have htl : t < rs.length := by have := HRL.out; omega
          have htl2 : (t : Int) < (rs.length : Int) := by omega
          have hul : u < rc.length := by have := HRL.out; have := HUB.out; omega
          have hul2 : (u : Int) < (rc.length : Int) := by omega
          go_upto_region 25 with fail
          cases ss
          all_goals
           go_quiet (fail)
           go_wp2
           go_roundw
           case rel => exact ⟨t + 1, by omega, by simp, ⟨pw_below_drewN HEND.out nq⟩⟩
           case measure => simp [intOf]; omega
         ·
          go_wp2_with (go_at_call 16; (with_reducible refine (awake_calls' _).mono ?_); rintro e w7 ⟨rfl, hb7⟩; have HB7 := Aside0.mk (below_step HD0.out hb7); clear hb7)
          go_ret
          exact ⟨rfl, hBr.out.trans (HB7.out.mono hBr.out.size)⟩
end Go.Proofs.Ytmnamkcjldaoeaa.PAll
