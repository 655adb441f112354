/- Parts of the proof of leagueTruth_holds, in order: F10, L10 -/
import Derived.Test.YtmnamkcjldaoeaaKTruth3
import Derived.Test.YtmnamkcjldaoeaaKTruth5
import Derived.Test.YtmnamkcjldaoeaaKTruth11
import Derived.Test.YtmnamkcjldaoeaaKTruth14
import Derived.Test.YtmnamkcjldaoeaaKTruth18
namespace Go.Proofs.Ytmnamkcjldaoeaa.PAll
open Go.RowKit Go.Proofs.YtmnamkcjldaoeaaW.PrintWords Go.Proofs.YtmnamkcjldaoeaaW.PrintLast Go.Proofs.YtmnamkcjldaoeaaW.PrintMore
attribute [local go_sem] max2_int min2_int max_two min_two max_three min_three max_four min_four   -- for this text's walks alone
set_option linter.unusedVariables false
set_option linter.unusedSimpArgs false
mutual
def kingpinlaw08_LeagueTruth.j0 : Nat → List Int → Bool → Int → List (S70) → Option (Bool)
 | 0, _, _, _, _ => none
 | k + 1, x5, x38, x576000, x576001 => if x38 = true then (some false) else (kingpinlaw08_LeagueTruth.l0 k x5 0 x576000 x576001)
def kingpinlaw08_LeagueTruth.l0 : Nat → List Int → Int → Int → List (S70) → Option (Bool)
 | 0, _, _, _, _ => none
 | k + 1, x5, x7, x576000, x576001 => if x7 < x576000 then ((kingpinlaw08_League.f k x576000 x576001).bind fun bt590 => ((league_CanFirst.f bt590.1 bt590.2 x7).bind fun bt594 => ((kingpinlaw08_League.f k x576000 x576001).bind fun bt596 => ((league_Surely.f bt596.1 bt596.2 x7).bind fun bt600 => ((kingpinlaw08_League.f k x576000 x576001).bind fun bt602 => ((league_Reason.f bt602.1 bt602.2 x7).bind fun bt606 => (if bt594.2 = 0 then (if bt600.2 = 0 then (if bt600.1 = true then (if bt594.1 = true then (if (bt594.1 != (bt606.2 == 7)) = true then (kingpinlaw08_LeagueTruth.j2 k x5 x7 bt594.1 bt600.1 bt606.1 true x576000 x576001) else (kingpinlaw08_LeagueTruth.j2 k x5 x7 bt594.1 bt600.1 bt606.1 false x576000 x576001)) else (kingpinlaw08_LeagueTruth.j2 k x5 x7 bt594.1 bt600.1 bt606.1 true x576000 x576001)) else (if (bt594.1 != (bt606.2 == 7)) = true then (kingpinlaw08_LeagueTruth.j2 k x5 x7 bt594.1 bt600.1 bt606.1 true x576000 x576001) else (if bt594.1 = true then (kingpinlaw08_LeagueTruth.j2 k x5 x7 bt594.1 bt600.1 bt606.1 false x576000 x576001) else (kingpinlaw08_LeagueTruth.j2 k x5 x7 bt594.1 bt600.1 bt606.1 (bt606.2 != 0) x576000 x576001)))) else (kingpinlaw08_LeagueTruth.j2 k x5 x7 bt594.1 bt600.1 bt606.1 true x576000 x576001)) else (kingpinlaw08_LeagueTruth.j2 k x5 x7 bt594.1 bt600.1 bt606.1 true x576000 x576001)))))))) else ((kingpinlaw08_awake.f).bind fun t589 => (some t589))
def kingpinlaw08_LeagueTruth.j2 : Nat → List Int → Int → Bool → Bool → List Int → Bool → Int → List (S70) → Option (Bool)
 | 0, _, _, _, _, _, _, _, _ => none
 | k + 1, x5, x7, x8, x10, x12, x92, x576000, x576001 => if x92 = true then (some false) else ((kingpinref08_First.f k x5 x7).bind fun t610 => (kingpinlaw08_LeagueTruth.l1 k x5 x7 x8 x10 x12 t610 false 0 x576000 x576001))
def kingpinlaw08_LeagueTruth.l1 : Nat → List Int → Int → Bool → Bool → List Int → Bool → Bool → Int → Int → List (S70) → Option (Bool)
 | 0, _, _, _, _, _, _, _, _, _, _ => none
 | k + 1, x5, x7, x8, x10, x12, x14, x15, x16, x576000, x576001 => if x16 < (x12.length : Int) then (if 0 ≤ x16 then ((kingpinref08_In.f (rd x12 x16) 0 (wrap64 (x576000 - 1))).bind fun t612 => (if t612 = true then (if x15 = true then (kingpinlaw08_LeagueTruth.l1 k x5 x7 x8 x10 x12 x14 true (wrap64 (x16 + 1)) x576000 x576001) else (if 0 ≤ (rd x12 x16) then (if (rd x12 x16) < (x5.length : Int) then (if 0 ≤ x7 then (if x7 < (x5.length : Int) then (kingpinlaw08_LeagueTruth.l1 k x5 x7 x8 x10 x12 x14 (decide ((rd x5 (rd x12 x16)) > (rd x5 x7))) (wrap64 (x16 + 1)) x576000 x576001) else (none)) else (none)) else (none)) else (none))) else (some false))) else (none)) else (if x14 = true then (if x8 = true then (if x10 = true then (kingpinlaw08_LeagueTruth.l0 k x5 (wrap64 (x7 + 1)) x576000 x576001) else (kingpinlaw08_LeagueTruth.l0 k x5 (wrap64 (x7 + 1)) x576000 x576001)) else (some false)) else (if x10 = true then (some false) else (if x8 = true then (kingpinlaw08_LeagueTruth.l0 k x5 (wrap64 (x7 + 1)) x576000 x576001) else (if x15 = true then (kingpinlaw08_LeagueTruth.l0 k x5 (wrap64 (x7 + 1)) x576000 x576001) else (some false)))))
end
def kingpinlaw08_LeagueTruth.f (k : Nat) (a0_0 : Int) (l0_1 : List (S70)) (l1 : List Int) : Option (Bool) := (kingpinlaw08_ready.f a0_0 l0_1).bind fun t576 => (if t576 = true then ((kingpinlaw08_League.f k a0_0 l0_1).bind fun bt578 => ((kingpinlaw08_ended.f k a0_0 l0_1 l1).bind fun t582 => ((league_After.f bt578.1 bt578.2 t582).bind fun bt585 => (if bt585.2 = 0 then (kingpinlaw08_LeagueTruth.j0 k bt585.1 ((bt585.1.length : Int) != a0_0) a0_0 l0_1) else (kingpinlaw08_LeagueTruth.j0 k bt585.1 true a0_0 l0_1))))) else ((kingpinlaw08_awake.f).bind fun t577 => (some t577)))
def kingpinlaw08_LeagueTruth.T3 : Bool × List (List Nat × List Nat) := (true, [([], []), ([0], [0]), ([], []), ([], []), ([2, 3, 1], [2, 3]), ([1, 4, 4], [1, 4]), ([5], [5]), ([6], [6]), ([6], [6]), ([7, 5, 0, 1, 2, 3, 4, 5, 6, 7], [7]), ([8, 9, 0, 1, 2, 3, 4, 5, 6, 7, 8, 9], [8])])
def kingpinlaw08_LeagueTruth.B3 : List Nat := [0, 1, 0, 0, 15, 31, 63, 127, 127, 255, 1023]
theorem kingpinlaw08_LeagueTruth.tab3 : rtab .any (opsOf Try.f10 3) = kingpinlaw08_LeagueTruth.T3 := by kernel_rfl
theorem kingpinlaw08_LeagueTruth.bits3 : waitsOk kingpinlaw08_LeagueTruth.T3.2 kingpinlaw08_LeagueTruth.B3 = true := by kernel_rfl
def kingpinlaw08_LeagueTruth.T18 : Bool × List (List Nat × List Nat) := (true, [([], []), ([], []), ([0, 1], [0, 1]), ([2], [2]), ([], []), ([4], [4]), ([5], [5]), ([3, 6], [3, 6]), ([7], [7])])
def kingpinlaw08_LeagueTruth.B18 : List Nat := [0, 0, 3, 7, 0, 16, 48, 127, 255]
theorem kingpinlaw08_LeagueTruth.tab18 : rtab .any (opsOf Try.f10 18) = kingpinlaw08_LeagueTruth.T18 := by kernel_rfl
theorem kingpinlaw08_LeagueTruth.bits18 : waitsOk kingpinlaw08_LeagueTruth.T18.2 kingpinlaw08_LeagueTruth.B18 = true := by kernel_rfl
def kingpinlaw08_LeagueTruth.T20 : Bool × List (List Nat × List Nat) := (true, [([], []), ([0], [0]), ([1], [1]), ([1], [1]), ([1], [1]), ([3, 4, 1], [1, 3, 4]), ([5, 1], [1, 5]), ([2, 6, 1], [1, 2, 6]), ([7, 1], [1, 7]), ([1], [1]), ([1], [1]), ([9, 10, 1], [1, 9, 10]), ([11, 1], [1, 11]), ([8, 12, 1], [1, 8, 12]), ([1, 13], [1, 13]), ([14, 1, 0, 1, 2, 3, 4, 5, 6, 7, 8, 9, 10, 11, 12, 13, 14], [0, 14])])
def kingpinlaw08_LeagueTruth.B20 : List Nat := [0, 1, 3, 3, 3, 27, 59, 127, 255, 3, 3, 1539, 3587, 8191, 16383, 32767]
theorem kingpinlaw08_LeagueTruth.tab20 : rtab .any (opsOf Try.f10 20) = kingpinlaw08_LeagueTruth.T20 := by kernel_rfl
theorem kingpinlaw08_LeagueTruth.bits20 : waitsOk kingpinlaw08_LeagueTruth.T20.2 kingpinlaw08_LeagueTruth.B20 = true := by kernel_rfl
set_option maxHeartbeats 8000000 in
set_option maxRecDepth 100000 in
theorem kingpinlaw08_LeagueTruth.calls (k : Nat) (a0_0 : Int) (A0_1 : Option Addr) (c0_1 : Nat) (l0_1 : List (S70)) (A1 : Option Addr) (c1 : Nat) (l1 : List Int) (r : Bool) (w : World) (hr0_1 : Kd.C k70 w A0_1 l0_1.length l0_1) (hc0_1 : l0_1.length ≤ c0_1) (hr1 : Kd.C (Kd.int .u16) w A1 l1.length l1) (hc1 : l1.length ≤ c1) (h : kingpinlaw08_LeagueTruth.f k a0_0 l0_1 l1 = some r) :
  Calls Try.prog 10 #[.agg #[.int .i64 a0_0, .slice A0_1 l0_1.length c0_1], .slice A1 l1.length c1] w fun e w' => e = .returned (.bool r) ∧ Below w.heap.size w w' := by
 have hu24 := Try.underlying24
 have HR0_1 := Aside0.mk hr0_1
 have HC0_1 := Aside0.mk hc0_1
 clear hr0_1 hc0_1
 have HR1 := Aside0.mk hr1
 have HC1 := Aside0.mk hc1
 clear hr1 hc1
 have HB := Aside0.mk (Below.refl w.heap.size w)
 have H : ((kingpinlaw08_ready.f a0_0 l0_1).bind fun t576 => (if t576 = true then ((kingpinlaw08_League.f k a0_0 l0_1).bind fun bt578 => ((kingpinlaw08_ended.f k a0_0 l0_1 l1).bind fun t582 => ((league_After.f bt578.1 bt578.2 t582).bind fun bt585 => (if bt585.2 = 0 then (kingpinlaw08_LeagueTruth.j0 k bt585.1 ((bt585.1.length : Int) != a0_0) a0_0 l0_1) else (kingpinlaw08_LeagueTruth.j0 k bt585.1 true a0_0 l0_1))))) else ((kingpinlaw08_awake.f).bind fun t577 => (some t577)))) = some r := h
 clear h
 replace H := Option.bind_eq_some_iff.mp H
 obtain ⟨t576, A30, H⟩ := H
 replace H : (if t576 = true then ((kingpinlaw08_League.f k a0_0 l0_1).bind fun bt578 => ((kingpinlaw08_ended.f k a0_0 l0_1 l1).bind fun t582 => ((league_After.f bt578.1 bt578.2 t582).bind fun bt585 => (if bt585.2 = 0 then (kingpinlaw08_LeagueTruth.j0 k bt585.1 ((bt585.1.length : Int) != a0_0) a0_0 l0_1) else (kingpinlaw08_LeagueTruth.j0 k bt585.1 true a0_0 l0_1))))) else ((kingpinlaw08_awake.f).bind fun t577 => (some t577))) = some r := H
 have A3 := Aside0.mk A30
 clear A30
 by_cases c4 : t576 = true
 ·
  subst c4
  have H1 : ((kingpinlaw08_League.f k a0_0 l0_1).bind fun bt578 => ((kingpinlaw08_ended.f k a0_0 l0_1 l1).bind fun t582 => ((league_After.f bt578.1 bt578.2 t582).bind fun bt585 => (if bt585.2 = 0 then (kingpinlaw08_LeagueTruth.j0 k bt585.1 ((bt585.1.length : Int) != a0_0) a0_0 l0_1) else (kingpinlaw08_LeagueTruth.j0 k bt585.1 true a0_0 l0_1))))) = some r := by rw [if_pos rfl] at H; exact H
  clear H
  have H := H1
  clear H1
  replace H := Option.bind_eq_some_iff.mp H
  obtain ⟨⟨t578, t579⟩, A50, H⟩ := H
  replace H : ((kingpinlaw08_ended.f k a0_0 l0_1 l1).bind fun t582 => ((league_After.f t578 t579 t582).bind fun bt585 => (if bt585.2 = 0 then (kingpinlaw08_LeagueTruth.j0 k bt585.1 ((bt585.1.length : Int) != a0_0) a0_0 l0_1) else (kingpinlaw08_LeagueTruth.j0 k bt585.1 true a0_0 l0_1)))) = some r := H
  have A5 := Aside0.mk A50
  clear A50
  replace H := Option.bind_eq_some_iff.mp H
  obtain ⟨t582, A60, H⟩ := H
  replace H : ((league_After.f t578 t579 t582).bind fun bt585 => (if bt585.2 = 0 then (kingpinlaw08_LeagueTruth.j0 k bt585.1 ((bt585.1.length : Int) != a0_0) a0_0 l0_1) else (kingpinlaw08_LeagueTruth.j0 k bt585.1 true a0_0 l0_1))) = some r := H
  have A6 := Aside0.mk A60
  clear A60
  replace H := Option.bind_eq_some_iff.mp H
  obtain ⟨⟨t585, t588⟩, A70, H⟩ := H
  replace H : (if t588 = 0 then (kingpinlaw08_LeagueTruth.j0 k t585 ((t585.length : Int) != a0_0) a0_0 l0_1) else (kingpinlaw08_LeagueTruth.j0 k t585 true a0_0 l0_1)) = some r := H
  have A7 := Aside0.mk A70
  clear A70
  have HC8 := Aside0.mk H
  clear H
  go_enter Try.func10, Try.ntmps10
  try go_wp2_with (first | ((with_reducible refine gate_dst (N := 2) rfl ?_); (try (refine gate_guard (by rfl) ?_; dsimp only)); refine box_event ?hg (N := 2) ?hd (cs := #[.int .i64 a0_0, .slice A0_1 l0_1.length c0_1]) (t := 24) ?hr ?_; (case hd => rfl); (case hg => rfl); (case hr => first | (go_simp; done) | (go_simp; rfl)); intro gb575 hg w9 hbox hb; have n0_ := Aside0.mk (below_step (by repeat (first | (with_reducible first | exact HB.out | apply below_alloc | apply pw_below_drewN | apply below_drew1) | exact HB.out)) hb); have n1_ := Aside0.mk (hbox); have n2_ := Aside0.mk ((by rw [hg]; exact (below_size (by repeat (first | (with_reducible first | exact HB.out | apply below_alloc | apply pw_below_drewN | apply below_drew1) | exact HB.out))) : w.heap.size ≤ gb575)); have n3_ := Aside0.mk ((by rw [hg]; exact (below_size (by repeat (first | (with_reducible first | exact HB.out | apply below_alloc | apply pw_below_drewN | apply below_drew1) | exact HB.out))) : w.heap.size ≤ gb575)); clear HB; have HB := n0_; have BK575 := n1_; have GW575 := n2_; have GE575 := n3_; clear n0_ n1_ n2_ n3_; clear hb hbox hg; have hcz10_0 : w9.cell? ⟨gb575, 0, none⟩ = some (.int .i64 a0_0) := (blk_cell BK575.out 0).trans rfl; have hcz10_1 : w9.cell? ⟨gb575, 1, none⟩ = some (.slice A0_1 l0_1.length c0_1) := (blk_cell BK575.out 1).trans rfl; have hfz10_0 := blk_frozen BK575.out 0; have hfz10_1 := blk_frozen BK575.out 1) | ((with_reducible refine gate_callee (f := 34) rfl ?_); refine goesL_ (some 18) rfl rfl Try.func34 (by kernel_rfl) rfl #[.agg #[.int .i64 a0_0, .slice A0_1 l0_1.length c0_1]] rfl (by (try simp only [List.map_toArray, List.map_cons, List.map_nil]); first | done | rfl | (simp only [List.length_drop, List.length_take]; rfl)) ?_; (with_reducible refine (kingpinlaw08_ready.calls a0_0 _ _ l0_1 true _ ?side1 ?side2 A3.out).mono ?_); (case side1 => repeat (first | exact (Kd.C_below HR0_1.out HB.out) | (with_reducible refine Kd.C_alloc ?_ _) | (with_reducible refine Kd.C_drewN ?_ _) | (with_reducible refine Kd.C_drew ?_))); (case side2 => exact HC0_1.out); rintro e w11 ⟨rfl, hb⟩; refine ⟨_, rfl, ?_⟩; have n0_ := Aside0.mk (blk_below (g := gb575) (o := .cells #[.int .i64 a0_0, .slice A0_1 l0_1.length c0_1] 24 (0, 0)) (by (with_reducible repeat (first | refine blk_drewN ?_ _ | refine blk_drew ?_ | refine blk_alloc ?_ _)); exact BK575.out) hb); have n1_ := Aside0.mk (below_step (by repeat (first | (with_reducible first | exact HB.out | apply below_alloc | apply pw_below_drewN | apply below_drew1 | refine below_set ?_ GE575.out) | exact HB.out)) hb); clear BK575; clear HB; have BK575 := n0_; have HB := n1_; clear n0_ n1_; (try clear hb); (try clear hb2); (try clear hk); (try clear hi)))
  have n0_ := Aside0.mk (blk_drew BK575.out)
  have n1_ := Aside0.mk (below_drew1 HB.out)
  clear BK575
  clear HB
  have BK575 := n0_
  have HB := n1_
  clear n0_ n1_
  refine start_ (n := 11) (S := fun w' => w'.cell? ⟨gb575, 0, none⟩ = some (.int .i64 a0_0) ∧ w'.cell? ⟨gb575, 1, none⟩ = some (.slice A0_1 l0_1.length c0_1)) (ds := []) #[false, false, false, false, false, false, false, false, false, false, false] (by kernel_rfl) rfl rfl ⟨(blk_cell BK575.out 0).trans rfl, (blk_cell BK575.out 1).trans rfl⟩ (fun hHeld => ?_); refine with_tabW kingpinlaw08_LeagueTruth.tab3 kingpinlaw08_LeagueTruth.bits3 (fun HT_ HW_ => ?_)
  generalize w11.drew = w12 at BK575 HB hHeld ⊢
  refine pure_ (i := 3) (N := some 25) (v := ?_) (a' := ?_) #[false, false, false, true, false, false, false, false, false, false, false] rfl rfl (any_of HT_.out (by kernel_rfl)) (fun _ _ _ h => h) (Or.inl ⟨by rfl, ?_⟩) ?_ ?_
  rotate_left
  ·
   intro w'
   go_simp
   with_reducible rfl
  rotate_left
  ·
   simp only [Act.put, List.setIfInBounds_toArray, List.set_cons_zero, List.set_cons_succ, i64_w, i32_w]
   rfl
  refine take_ (i := 0) (N := some 22) (v := ?_) (a' := ?_) #[true, false, false, true, false, false, false, false, false, false, false] rfl rfl (take_ofW HT_.out HW_.out (by kernel_rfl)) (fun _ _ _ h => h) (Or.inl ⟨by rfl, ?_⟩) hHeld ?_ ?_
  rotate_left
  ·
   rintro w' ⟨s0, s1⟩
   go_simp
   with_reducible rfl
  rotate_left
  ·
   simp only [Act.put, List.setIfInBounds_toArray, List.set_cons_zero, List.set_cons_succ, i64_w, i32_w]
   rfl
  refine take_ (i := 2) (N := some 24) (v := ?_) (a' := ?_) #[true, false, true, true, false, false, false, false, false, false, false] rfl rfl (take_ofW HT_.out HW_.out (by kernel_rfl)) (fun _ _ _ h => h) (Or.inl ⟨by rfl, ?_⟩) hHeld ?_ ?_
  rotate_left
  ·
   rintro w' ⟨s0, s1⟩
   go_simp
   with_reducible rfl
  rotate_left
  ·
   simp only [Act.put, List.setIfInBounds_toArray, List.set_cons_zero, List.set_cons_succ, i64_w, i32_w]
   rfl
  refine one_ (i := 1) (N := some 23) #[true, true, true, true, false, false, false, false, false, false, false] rfl rfl (one_of HT_.out (by kernel_rfl)) (by decide) (fun K hK => ?_)
  refine goes_ Try.func18 (by kernel_rfl) rfl #[.agg #[.int .i64 a0_0, .slice A0_1 l0_1.length c0_1]] (by rfl) rfl rfl (by (try simp only [List.map_toArray, List.map_cons, List.map_nil]); first | done | rfl | (simp only [List.length_drop, List.length_take]; rfl)) ?_
  with_reducible refine (kingpinlaw08_League.calls k a0_0 _ _ l0_1 t578 t579 _ ?side1 ?side2 A5.out).mono ?_
  (case side1 => repeat (first | exact (Kd.C_below HR0_1.out HB.out) | (with_reducible refine Kd.C_alloc ?_ _) | (with_reducible refine Kd.C_drewN ?_ _) | (with_reducible refine Kd.C_drew ?_)))
  (case side2 => exact HC0_1.out)
  rintro e w13 ⟨v580, rfl, ho0, hb⟩
  refine ⟨_, rfl, ?_⟩
  have n0_ := Aside0.mk (Kd.R_lower ho0 (below_size (by repeat (first | (with_reducible first | exact HB.out | apply below_alloc | apply pw_below_drewN | apply below_drew1 | refine below_set ?_ GE575.out) | exact HB.out))))
  have n1_ := Aside0.mk (blk_below (g := gb575) (o := .cells #[.int .i64 a0_0, .slice A0_1 l0_1.length c0_1] 24 (0, 0)) (by (with_reducible repeat (first | refine blk_drewN ?_ _ | refine blk_drew ?_ | refine blk_alloc ?_ _)); exact BK575.out) hb)
  have n2_ := Aside0.mk (below_step (by repeat (first | (with_reducible first | exact HB.out | apply below_alloc | apply pw_below_drewN | apply below_drew1 | refine below_set ?_ GE575.out) | exact HB.out)) hb)
  clear BK575
  clear HB
  have HO581 := n0_
  have BK575 := n1_
  have HB := n2_
  clear n0_ n1_ n2_
  (try clear hb)
  (try clear hb2)
  (try clear hk)
  (try clear hi)
  (try clear ho0)
  refine hK.out _ _ ⟨(blk_cell BK575.out 0).trans rfl, (blk_cell BK575.out 1).trans rfl⟩ (fun hHeld => ?_)
  clear hK K
  refine norm_ (a' := ?_) ?_ ?_
  rotate_left
  ·
   show Act.put _ (some 23) _ = _
   simp only [Act.put, List.setIfInBounds_toArray, List.set_cons_zero, List.set_cons_succ, i64_w, i32_w]
   rfl
  refine one_ (i := 4) (N := some 26) #[true, true, true, true, true, false, false, false, false, false, false] rfl rfl (one_of HT_.out (by kernel_rfl)) (by decide) (fun K hK => ?_)
  refine goes_ Try.func36 (by kernel_rfl) rfl #[.agg #[.int .i64 a0_0, .slice A0_1 l0_1.length c0_1], .slice A1 l1.length c1] (by rfl) rfl rfl (by (try simp only [List.map_toArray, List.map_cons, List.map_nil]); first | done | rfl | (simp only [List.length_drop, List.length_take]; rfl)) ?_
  with_reducible refine (kingpinlaw08_ended.calls k a0_0 _ _ l0_1 _ _ l1 t582 _ ?side1 ?side2 ?side3 ?side4 A6.out).mono ?_
  (case side1 => repeat (first | exact (Kd.C_below HR0_1.out HB.out) | (with_reducible refine Kd.C_alloc ?_ _) | (with_reducible refine Kd.C_drewN ?_ _) | (with_reducible refine Kd.C_drew ?_)))
  (case side2 => exact HC0_1.out)
  (case side3 => repeat (first | exact (Kd.C_below HR1.out HB.out) | (with_reducible refine Kd.C_alloc ?_ _) | (with_reducible refine Kd.C_drewN ?_ _) | (with_reducible refine Kd.C_drew ?_)))
  (case side4 => exact HC1.out)
  rintro e w14 ⟨v583, rfl, ho0, hb⟩
  refine ⟨_, rfl, ?_⟩
  have n0_ := Aside0.mk (Kd.R_below (by (with_reducible repeat (first | apply Kd.R_alloc | apply Kd.R_drewN | apply Kd.R_drew)); exact HO581.out) hb)
  have n1_ := Aside0.mk (Kd.R_lower ho0 (below_size (by repeat (first | (with_reducible first | exact HB.out | apply below_alloc | apply pw_below_drewN | apply below_drew1 | refine below_set ?_ GE575.out) | exact HB.out))))
  have n2_ := Aside0.mk (blk_below (g := gb575) (o := .cells #[.int .i64 a0_0, .slice A0_1 l0_1.length c0_1] 24 (0, 0)) (by (with_reducible repeat (first | refine blk_drewN ?_ _ | refine blk_drew ?_ | refine blk_alloc ?_ _)); exact BK575.out) hb)
  have n3_ := Aside0.mk (below_step (by repeat (first | (with_reducible first | exact HB.out | apply below_alloc | apply pw_below_drewN | apply below_drew1 | refine below_set ?_ GE575.out) | exact HB.out)) hb)
  clear HO581
  clear BK575
  clear HB
  have HO581 := n0_
  have HO584 := n1_
  have BK575 := n2_
  have HB := n3_
  clear n0_ n1_ n2_ n3_
  (try clear hb)
  (try clear hb2)
  (try clear hk)
  (try clear hi)
  (try clear ho0)
  obtain ⟨Ao15, co15, eo15⟩ := Kd.R_slice HO581.out
  (first | subst eo15 | (injection eo15 with f1_ f2_ f3_; have f4_ := f1_.symm; have f5_ := f3_.symm; clear f1_ f2_ f3_; subst f4_; subst f5_))
  obtain ⟨Ao16, co16, eo16⟩ := Kd.R_slice HO584.out
  (first | subst eo16 | (injection eo16 with f1_ f2_ f3_; have f4_ := f1_.symm; have f5_ := f3_.symm; clear f1_ f2_ f3_; subst f4_; subst f5_))
  refine hK.out _ _ ⟨(blk_cell BK575.out 0).trans rfl, (blk_cell BK575.out 1).trans rfl⟩ (fun hHeld => ?_)
  clear hK K
  refine norm_ (a' := ?_) ?_ ?_
  rotate_left
  ·
   show Act.put _ (some 26) _ = _
   simp only [Act.put, List.setIfInBounds_toArray, List.set_cons_zero, List.set_cons_succ, i64_w, i32_w]
   rfl
  refine one_ (i := 5) (N := some 27) #[true, true, true, true, true, true, false, false, false, false, false] rfl rfl (one_of HT_.out (by kernel_rfl)) (by decide) (fun K hK => ?_)
  refine goes_ Try.func25 (by kernel_rfl) rfl #[.agg #[.int .i64 t578, .slice Ao15 t579.length co15], .slice Ao16 t582.length co16] (by rfl) rfl rfl (by (try simp only [List.map_toArray, List.map_cons, List.map_nil]); first | done | rfl | (simp only [List.length_drop, List.length_take]; rfl)) ?_
  with_reducible refine (league_After.calls t578 _ _ t579 _ _ t582 t585 t588 _ ?side1 ?side2 ?side3 ?side4 A7.out).mono ?_
  (case side1 => repeat (first | exact (Kd.R_reads' HO581.out).2.2 | (with_reducible refine Kd.C_alloc ?_ _) | (with_reducible refine Kd.C_drewN ?_ _) | (with_reducible refine Kd.C_drew ?_)))
  (case side2 => exact (Kd.R_reads' HO581.out).2.1)
  (case side3 => repeat (first | exact (Kd.R_reads' HO584.out).2.2 | (with_reducible refine Kd.C_alloc ?_ _) | (with_reducible refine Kd.C_drewN ?_ _) | (with_reducible refine Kd.C_drew ?_)))
  (case side4 => exact (Kd.R_reads' HO584.out).2.1)
  rintro e w17 ⟨v586, rfl, ho0, hb⟩
  refine ⟨_, rfl, ?_⟩
  have n0_ := Aside0.mk (Kd.R_below (by (with_reducible repeat (first | apply Kd.R_alloc | apply Kd.R_drewN | apply Kd.R_drew)); exact HO581.out) hb)
  have n1_ := Aside0.mk (Kd.R_below (by (with_reducible repeat (first | apply Kd.R_alloc | apply Kd.R_drewN | apply Kd.R_drew)); exact HO584.out) hb)
  have n2_ := Aside0.mk (Kd.R_lower ho0 (below_size (by repeat (first | (with_reducible first | exact HB.out | apply below_alloc | apply pw_below_drewN | apply below_drew1 | refine below_set ?_ GE575.out) | exact HB.out))))
  have n3_ := Aside0.mk (blk_below (g := gb575) (o := .cells #[.int .i64 a0_0, .slice A0_1 l0_1.length c0_1] 24 (0, 0)) (by (with_reducible repeat (first | refine blk_drewN ?_ _ | refine blk_drew ?_ | refine blk_alloc ?_ _)); exact BK575.out) hb)
  have n4_ := Aside0.mk (below_step (by repeat (first | (with_reducible first | exact HB.out | apply below_alloc | apply pw_below_drewN | apply below_drew1 | refine below_set ?_ GE575.out) | exact HB.out)) hb)
  clear HO581
  clear HO584
  clear BK575
  clear HB
  have HO581 := n0_
  have HO584 := n1_
  have HO587 := n2_
  have BK575 := n3_
  have HB := n4_
  clear n0_ n1_ n2_ n3_ n4_
  (try clear hb)
  (try clear hb2)
  (try clear hk)
  (try clear hi)
  (try clear ho0)
  refine hK.out _ _ ⟨(blk_cell BK575.out 0).trans rfl, (blk_cell BK575.out 1).trans rfl⟩ (fun hHeld => ?_)
  clear hK K
  refine norm_ (a' := ?_) ?_ ?_
  rotate_left
  ·
   show Act.put _ (some 27) _ = _
   simp only [Act.put, List.setIfInBounds_toArray, List.set_cons_zero, List.set_cons_succ, i64_w, i32_w]
   rfl
  refine pure_ (i := 6) (N := some 21) (v := ?_) (a' := ?_) #[true, true, true, true, true, true, true, false, false, false, false] rfl rfl (any_of HT_.out (by kernel_rfl)) (fun _ _ _ h => h) (Or.inl ⟨by rfl, ?_⟩) ?_ ?_
  rotate_left
  ·
   intro w'
   go_simp
   with_reducible rfl
  rotate_left
  ·
   simp only [Act.put, List.setIfInBounds_toArray, List.set_cons_zero, List.set_cons_succ, i64_w, i32_w]
   rfl
  refine pure_ (i := 7) (N := some 28) (v := ?_) (a' := ?_) #[true, true, true, true, true, true, true, true, false, false, false] rfl rfl (any_of HT_.out (by kernel_rfl)) (fun _ _ _ h => h) (Or.inl ⟨by rfl, ?_⟩) ?_ ?_
  rotate_left
  ·
   intro w'
   go_simp
   with_reducible rfl
  rotate_left
  ·
   simp only [Act.put, List.setIfInBounds_toArray, List.set_cons_zero, List.set_cons_succ, i64_w, i32_w]
   rfl
  refine pure_ (i := 8) (N := some 29) (v := ?_) (a' := ?_) #[true, true, true, true, true, true, true, true, true, false, false] rfl rfl (any_of HT_.out (by kernel_rfl)) (fun _ _ _ h => h) (Or.inl ⟨by rfl, ?_⟩) ?_ ?_
  rotate_left
  ·
   intro w'
   go_simp
   with_reducible rfl
  rotate_left
  ·
   simp only [Act.put, List.setIfInBounds_toArray, List.set_cons_zero, List.set_cons_succ, i64_w, i32_w]
   rfl
  refine pure_ (i := 9) (N := some 5) (v := ?_) (a' := ?_) #[true, true, true, true, true, true, true, true, true, true, false] rfl rfl (any_of HT_.out (by kernel_rfl)) (fun _ _ _ h => h) (Or.inl ⟨by rfl, ?_⟩) ?_ ?_
  rotate_left
  ·
   intro w'
   go_simp
   with_reducible rfl
  rotate_left
  ·
   simp only [Act.put, List.setIfInBounds_toArray, List.set_cons_zero, List.set_cons_succ, i64_w, i32_w]
   rfl
  refine pure_ (i := 10) (N := some 6) (v := ?_) (a' := ?_) #[true, true, true, true, true, true, true, true, true, true, true] rfl rfl (any_of HT_.out (by kernel_rfl)) (fun _ _ _ h => h) (Or.inl ⟨by rfl, ?_⟩) ?_ ?_
  rotate_left
  ·
   intro w'
   go_simp
   with_reducible rfl
  rotate_left
  ·
   simp only [Act.put, List.setIfInBounds_toArray, List.set_cons_zero, List.set_cons_succ, i64_w, i32_w]
   rfl
  refine done_ (done_of HT_.out (by kernel_rfl)) ?_
  go_upto_region 4 with (fail)
  go_cut [38] (fun v38 wc => ∃ (kq : Nat) (x38_7 : Bool), v38 = .bool x38_7 ∧ Aside0 (kingpinlaw08_LeagueTruth.j0 kq t585 x38_7 a0_0 l0_1 = some r) ∧ Aside0 (kq ≤ k) ∧ Aside0 (Kd.R (Kd.int .i64) 3 wc w.heap.size (fun _ => True) v586 t585) ∧ Aside0 (wc.heap[gb575]? = some (.cells #[.int .i64 a0_0, (.slice A0_1 l0_1.length c0_1)] 24 (0, 0))) ∧ Aside0 (Below w.heap.size w wc))
  case first =>
   have H := HC8.out
   clear HC8
   by_cases c18 : t588 = 0
   ·
    rw [if_pos c18] at H
    have c18b0 : (t588 == 0) = true := beq_iff_eq.mpr c18
    have c18b1 : (t588 != 0) = false := bne_eq_false_iff_eq.mpr c18
    clear c18
    (first | rw [c18b0] | (simp only [i64_w, i32_w]; rw [c18b0]) | skip)
    have H' := Aside0.mk H
    clear H
    obtain ⟨Ao19, co19, eo19⟩ := Kd.R_slice HO587.out
    subst eo19
    have hcz20_0 : w17.cell? ⟨gb575, 0, none⟩ = some (.int .i64 a0_0) := (blk_cell BK575.out 0).trans rfl
    have hcz20_1 : w17.cell? ⟨gb575, 1, none⟩ = some (.slice A0_1 l0_1.length c0_1) := (blk_cell BK575.out 1).trans rfl
    have hfz20_0 := blk_frozen BK575.out 0
    have hfz20_1 := blk_frozen BK575.out 1
    go_wp2
    go_meet
    case rel => exact ⟨_, (((t585.length : Int) != a0_0)), (by first | rfl | (simp; done) | (simp [*]; done)), H', ⟨by first | omega | exact Nat.le_refl _⟩, ⟨by (with_reducible repeat (first | apply Kd.R_alloc | apply Kd.R_drewN | apply Kd.R_drew)); exact HO587.out⟩, ⟨by (with_reducible repeat (first | refine blk_drewN ?_ _ | refine blk_drew ?_ | refine blk_alloc ?_ _)); exact BK575.out⟩, ⟨by repeat (first | (with_reducible first | exact HB.out | apply below_alloc | apply pw_below_drewN | apply below_drew1 | refine below_set ?_ GE575.out) | exact HB.out)⟩⟩
   ·
    rw [if_neg c18] at H
    have c18b0 : (t588 == 0) = false := beq_eq_false_iff_ne.mpr c18
    have c18b1 : (t588 != 0) = true := bne_iff_ne.mpr c18
    (first | rw [c18b0] | (simp only [i64_w, i32_w]; rw [c18b0]) | skip)
    have H' := Aside0.mk H
    clear H
    go_wp2
    go_meet
    case rel => exact ⟨_, (true), (by first | rfl | (simp; done) | (simp [*]; done)), H', ⟨by first | omega | exact Nat.le_refl _⟩, ⟨by (with_reducible repeat (first | apply Kd.R_alloc | apply Kd.R_drewN | apply Kd.R_drew)); exact HO587.out⟩, ⟨by (with_reducible repeat (first | refine blk_drewN ?_ _ | refine blk_drew ?_ | refine blk_alloc ?_ _)); exact BK575.out⟩, ⟨by repeat (first | (with_reducible first | exact HB.out | apply below_alloc | apply pw_below_drewN | apply below_drew1 | refine below_set ?_ GE575.out) | exact HB.out)⟩⟩
  case rest =>
   clear HC8
   try clear c1
   try clear c2
   try clear p2
   try clear c3
   try clear c4
   try clear c10
   try clear c18
   try clear c18b0
   try clear c18b1
   try clear hcz10_0
   try clear hcz10_1
   try clear hcz20_0
   try clear hcz20_1
   try clear hfz10_0
   try clear hfz10_1
   try clear hfz20_0
   try clear hfz20_1
   obtain ⟨kq, x38_7, rfl, HA, HJ7, HO_5, BK575, HB⟩ := hcut
   cases kq with
   | zero => exact absurd HA.out (by simp [kingpinlaw08_LeagueTruth.j0])
   | succ kj7 =>
    have H := HA.out
    clear HA
    simp only [kingpinlaw08_LeagueTruth.j0] at H
    by_cases c21 : x38_7 = true
    ·
     subst c21
     have H1 : (some false) = some r := by rw [if_pos rfl] at H; exact H
     clear H
     have H := H1
     clear H1
     obtain rfl := Option.some.inj H
     go_wp2
     go_ret
     exact ⟨by first | rfl | (simp [errW_none, errW_some] <;> rfl) | (simp [*, errW_none, errW_some] <;> rfl), by repeat (first | (with_reducible first | exact HB.out | apply below_alloc | apply pw_below_drewN | apply below_drew1 | refine below_set ?_ GE575.out) | exact HB.out)⟩
    ·
     replace c21 := Bool.eq_false_iff.mpr c21
     subst c21
     have H1 : (kingpinlaw08_LeagueTruth.l0 kj7 t585 0 a0_0 l0_1) = some r := by rw [if_neg (show ¬ (false = true) by decide)] at H; exact H
     clear H
     have H := H1
     clear H1
     have H' := Aside0.mk H
     clear H
     go_wp2
     go_loopg [7] kj7 (fun kq v7 w' => ∃ (x7_2 : Int), v7 = .int .i64 x7_2 ∧ Aside0 (kingpinlaw08_LeagueTruth.l0 kq t585 x7_2 a0_0 l0_1 = some r) ∧ Aside0 (kq ≤ kj7) ∧ Aside0 (Kd.R (Kd.int .i64) 3 w' w.heap.size (fun _ => True) v586 t585) ∧ Aside0 (w'.heap[gb575]? = some (.cells #[.int .i64 a0_0, (.slice A0_1 l0_1.length c0_1)] 24 (0, 0))) ∧ Aside0 (Below w.heap.size w w'))
     case atStart => exact ⟨(0), (by first | rfl | (simp; done) | (simp [*]; done)), H', ⟨Nat.le_refl _⟩, ⟨by (with_reducible repeat (first | apply Kd.R_alloc | apply Kd.R_drewN | apply Kd.R_drew)); exact HO_5.out⟩, ⟨by (with_reducible repeat (first | refine blk_drewN ?_ _ | refine blk_drew ?_ | refine blk_alloc ?_ _)); exact BK575.out⟩, ⟨by repeat (first | (with_reducible first | exact HB.out | apply below_alloc | apply pw_below_drewN | apply below_drew1 | refine below_set ?_ GE575.out) | exact HB.out)⟩⟩
     case round =>
      clear H'
      try clear c1
      try clear c2
      try clear p2
      try clear c3
      try clear c4
      try clear c10
      try clear c18
      try clear c18b0
      try clear c18b1
      try clear c21
      try clear hcz10_0
      try clear hcz10_1
      try clear hcz20_0
      try clear hcz20_1
      try clear hfz10_0
      try clear hfz10_1
      try clear hfz20_0
      try clear hfz20_1
      try clear p2
      obtain ⟨x7_2, rfl, HA, HK2, HO_5, BK575, HB⟩ := hrel
      cases gk with
      | zero => exact absurd HA.out (by simp [kingpinlaw08_LeagueTruth.l0])
      | succ k2 =>
       have H := HA.out
       clear HA
       simp only [kingpinlaw08_LeagueTruth.l0] at H
       by_cases c22 : x7_2 < a0_0
       ·
        rw [if_pos c22] at H
        have c22b0 : decide (x7_2 < a0_0) = true := decide_eq_true c22
        clear c22
        replace H := Option.bind_eq_some_iff.mp H
        obtain ⟨⟨t590, t591⟩, A230, H⟩ := H
        replace H : ((league_CanFirst.f t590 t591 x7_2).bind fun bt594 => ((kingpinlaw08_League.f k2 a0_0 l0_1).bind fun bt596 => ((league_Surely.f bt596.1 bt596.2 x7_2).bind fun bt600 => ((kingpinlaw08_League.f k2 a0_0 l0_1).bind fun bt602 => ((league_Reason.f bt602.1 bt602.2 x7_2).bind fun bt606 => (if bt594.2 = 0 then (if bt600.2 = 0 then (if bt600.1 = true then (if bt594.1 = true then (if (bt594.1 != (bt606.2 == 7)) = true then (kingpinlaw08_LeagueTruth.j2 k2 t585 x7_2 bt594.1 bt600.1 bt606.1 true a0_0 l0_1) else (kingpinlaw08_LeagueTruth.j2 k2 t585 x7_2 bt594.1 bt600.1 bt606.1 false a0_0 l0_1)) else (kingpinlaw08_LeagueTruth.j2 k2 t585 x7_2 bt594.1 bt600.1 bt606.1 true a0_0 l0_1)) else (if (bt594.1 != (bt606.2 == 7)) = true then (kingpinlaw08_LeagueTruth.j2 k2 t585 x7_2 bt594.1 bt600.1 bt606.1 true a0_0 l0_1) else (if bt594.1 = true then (kingpinlaw08_LeagueTruth.j2 k2 t585 x7_2 bt594.1 bt600.1 bt606.1 false a0_0 l0_1) else (kingpinlaw08_LeagueTruth.j2 k2 t585 x7_2 bt594.1 bt600.1 bt606.1 (bt606.2 != 0) a0_0 l0_1)))) else (kingpinlaw08_LeagueTruth.j2 k2 t585 x7_2 bt594.1 bt600.1 bt606.1 true a0_0 l0_1)) else (kingpinlaw08_LeagueTruth.j2 k2 t585 x7_2 bt594.1 bt600.1 bt606.1 true a0_0 l0_1))))))) = some r := H
        have A23 := Aside0.mk A230
        clear A230
        replace H := Option.bind_eq_some_iff.mp H
        obtain ⟨⟨t594, t595⟩, A240, H⟩ := H
        replace H : ((kingpinlaw08_League.f k2 a0_0 l0_1).bind fun bt596 => ((league_Surely.f bt596.1 bt596.2 x7_2).bind fun bt600 => ((kingpinlaw08_League.f k2 a0_0 l0_1).bind fun bt602 => ((league_Reason.f bt602.1 bt602.2 x7_2).bind fun bt606 => (if t595 = 0 then (if bt600.2 = 0 then (if bt600.1 = true then (if t594 = true then (if (t594 != (bt606.2 == 7)) = true then (kingpinlaw08_LeagueTruth.j2 k2 t585 x7_2 t594 bt600.1 bt606.1 true a0_0 l0_1) else (kingpinlaw08_LeagueTruth.j2 k2 t585 x7_2 t594 bt600.1 bt606.1 false a0_0 l0_1)) else (kingpinlaw08_LeagueTruth.j2 k2 t585 x7_2 t594 bt600.1 bt606.1 true a0_0 l0_1)) else (if (t594 != (bt606.2 == 7)) = true then (kingpinlaw08_LeagueTruth.j2 k2 t585 x7_2 t594 bt600.1 bt606.1 true a0_0 l0_1) else (if t594 = true then (kingpinlaw08_LeagueTruth.j2 k2 t585 x7_2 t594 bt600.1 bt606.1 false a0_0 l0_1) else (kingpinlaw08_LeagueTruth.j2 k2 t585 x7_2 t594 bt600.1 bt606.1 (bt606.2 != 0) a0_0 l0_1)))) else (kingpinlaw08_LeagueTruth.j2 k2 t585 x7_2 t594 bt600.1 bt606.1 true a0_0 l0_1)) else (kingpinlaw08_LeagueTruth.j2 k2 t585 x7_2 t594 bt600.1 bt606.1 true a0_0 l0_1)))))) = some r := H
        have A24 := Aside0.mk A240
        clear A240
        replace H := Option.bind_eq_some_iff.mp H
        obtain ⟨⟨t596, t597⟩, A250, H⟩ := H
        replace H : ((league_Surely.f t596 t597 x7_2).bind fun bt600 => ((kingpinlaw08_League.f k2 a0_0 l0_1).bind fun bt602 => ((league_Reason.f bt602.1 bt602.2 x7_2).bind fun bt606 => (if t595 = 0 then (if bt600.2 = 0 then (if bt600.1 = true then (if t594 = true then (if (t594 != (bt606.2 == 7)) = true then (kingpinlaw08_LeagueTruth.j2 k2 t585 x7_2 t594 bt600.1 bt606.1 true a0_0 l0_1) else (kingpinlaw08_LeagueTruth.j2 k2 t585 x7_2 t594 bt600.1 bt606.1 false a0_0 l0_1)) else (kingpinlaw08_LeagueTruth.j2 k2 t585 x7_2 t594 bt600.1 bt606.1 true a0_0 l0_1)) else (if (t594 != (bt606.2 == 7)) = true then (kingpinlaw08_LeagueTruth.j2 k2 t585 x7_2 t594 bt600.1 bt606.1 true a0_0 l0_1) else (if t594 = true then (kingpinlaw08_LeagueTruth.j2 k2 t585 x7_2 t594 bt600.1 bt606.1 false a0_0 l0_1) else (kingpinlaw08_LeagueTruth.j2 k2 t585 x7_2 t594 bt600.1 bt606.1 (bt606.2 != 0) a0_0 l0_1)))) else (kingpinlaw08_LeagueTruth.j2 k2 t585 x7_2 t594 bt600.1 bt606.1 true a0_0 l0_1)) else (kingpinlaw08_LeagueTruth.j2 k2 t585 x7_2 t594 bt600.1 bt606.1 true a0_0 l0_1))))) = some r := H
        have A25 := Aside0.mk A250
        clear A250
        replace H := Option.bind_eq_some_iff.mp H
        obtain ⟨⟨t600, t601⟩, A260, H⟩ := H
        replace H : ((kingpinlaw08_League.f k2 a0_0 l0_1).bind fun bt602 => ((league_Reason.f bt602.1 bt602.2 x7_2).bind fun bt606 => (if t595 = 0 then (if t601 = 0 then (if t600 = true then (if t594 = true then (if (t594 != (bt606.2 == 7)) = true then (kingpinlaw08_LeagueTruth.j2 k2 t585 x7_2 t594 t600 bt606.1 true a0_0 l0_1) else (kingpinlaw08_LeagueTruth.j2 k2 t585 x7_2 t594 t600 bt606.1 false a0_0 l0_1)) else (kingpinlaw08_LeagueTruth.j2 k2 t585 x7_2 t594 t600 bt606.1 true a0_0 l0_1)) else (if (t594 != (bt606.2 == 7)) = true then (kingpinlaw08_LeagueTruth.j2 k2 t585 x7_2 t594 t600 bt606.1 true a0_0 l0_1) else (if t594 = true then (kingpinlaw08_LeagueTruth.j2 k2 t585 x7_2 t594 t600 bt606.1 false a0_0 l0_1) else (kingpinlaw08_LeagueTruth.j2 k2 t585 x7_2 t594 t600 bt606.1 (bt606.2 != 0) a0_0 l0_1)))) else (kingpinlaw08_LeagueTruth.j2 k2 t585 x7_2 t594 t600 bt606.1 true a0_0 l0_1)) else (kingpinlaw08_LeagueTruth.j2 k2 t585 x7_2 t594 t600 bt606.1 true a0_0 l0_1)))) = some r := H
        have A26 := Aside0.mk A260
        clear A260
        replace H := Option.bind_eq_some_iff.mp H
        obtain ⟨⟨t602, t603⟩, A270, H⟩ := H
        replace H : ((league_Reason.f t602 t603 x7_2).bind fun bt606 => (if t595 = 0 then (if t601 = 0 then (if t600 = true then (if t594 = true then (if (t594 != (bt606.2 == 7)) = true then (kingpinlaw08_LeagueTruth.j2 k2 t585 x7_2 t594 t600 bt606.1 true a0_0 l0_1) else (kingpinlaw08_LeagueTruth.j2 k2 t585 x7_2 t594 t600 bt606.1 false a0_0 l0_1)) else (kingpinlaw08_LeagueTruth.j2 k2 t585 x7_2 t594 t600 bt606.1 true a0_0 l0_1)) else (if (t594 != (bt606.2 == 7)) = true then (kingpinlaw08_LeagueTruth.j2 k2 t585 x7_2 t594 t600 bt606.1 true a0_0 l0_1) else (if t594 = true then (kingpinlaw08_LeagueTruth.j2 k2 t585 x7_2 t594 t600 bt606.1 false a0_0 l0_1) else (kingpinlaw08_LeagueTruth.j2 k2 t585 x7_2 t594 t600 bt606.1 (bt606.2 != 0) a0_0 l0_1)))) else (kingpinlaw08_LeagueTruth.j2 k2 t585 x7_2 t594 t600 bt606.1 true a0_0 l0_1)) else (kingpinlaw08_LeagueTruth.j2 k2 t585 x7_2 t594 t600 bt606.1 true a0_0 l0_1))) = some r := H
        have A27 := Aside0.mk A270
        clear A270
        replace H := Option.bind_eq_some_iff.mp H
        obtain ⟨⟨t606, t609⟩, A280, H⟩ := H
        replace H : (if t595 = 0 then (if t601 = 0 then (if t600 = true then (if t594 = true then (if (t594 != (t609 == 7)) = true then (kingpinlaw08_LeagueTruth.j2 k2 t585 x7_2 t594 t600 t606 true a0_0 l0_1) else (kingpinlaw08_LeagueTruth.j2 k2 t585 x7_2 t594 t600 t606 false a0_0 l0_1)) else (kingpinlaw08_LeagueTruth.j2 k2 t585 x7_2 t594 t600 t606 true a0_0 l0_1)) else (if (t594 != (t609 == 7)) = true then (kingpinlaw08_LeagueTruth.j2 k2 t585 x7_2 t594 t600 t606 true a0_0 l0_1) else (if t594 = true then (kingpinlaw08_LeagueTruth.j2 k2 t585 x7_2 t594 t600 t606 false a0_0 l0_1) else (kingpinlaw08_LeagueTruth.j2 k2 t585 x7_2 t594 t600 t606 (t609 != 0) a0_0 l0_1)))) else (kingpinlaw08_LeagueTruth.j2 k2 t585 x7_2 t594 t600 t606 true a0_0 l0_1)) else (kingpinlaw08_LeagueTruth.j2 k2 t585 x7_2 t594 t600 t606 true a0_0 l0_1)) = some r := H
        have A28 := Aside0.mk A280
        clear A280
        have HC29 := Aside0.mk H
        clear H
        have hcz30_0 : wr.cell? ⟨gb575, 0, none⟩ = some (.int .i64 a0_0) := (blk_cell BK575.out 0).trans rfl
        have hcz30_1 : wr.cell? ⟨gb575, 1, none⟩ = some (.slice A0_1 l0_1.length c0_1) := (blk_cell BK575.out 1).trans rfl
        have hfz30_0 := blk_frozen BK575.out 0
        have hfz30_1 := blk_frozen BK575.out 1
        go_upto_region 12 with (first | ((with_reducible refine gate_callee (f := 18) rfl ?_); refine goesL_ (some 47) rfl rfl Try.func18 (by kernel_rfl) rfl #[.agg #[.int .i64 a0_0, .slice A0_1 l0_1.length c0_1]] rfl (by (try simp only [List.map_toArray, List.map_cons, List.map_nil]); first | done | rfl | (simp only [List.length_drop, List.length_take]; rfl)) ?_; (with_reducible refine (kingpinlaw08_League.calls k2 a0_0 _ _ l0_1 t590 t591 _ ?side1 ?side2 A23.out).mono ?_); (case side1 => repeat (first | exact (Kd.C_below HR0_1.out HB.out) | (with_reducible refine Kd.C_alloc ?_ _) | (with_reducible refine Kd.C_drewN ?_ _) | (with_reducible refine Kd.C_drew ?_))); (case side2 => exact HC0_1.out); rintro e w31 ⟨v592, rfl, ho0, hb⟩; refine ⟨_, rfl, ?_⟩; have n0_ := Aside0.mk (Kd.R_below (by (with_reducible repeat (first | apply Kd.R_alloc | apply Kd.R_drewN | apply Kd.R_drew)); exact HO_5.out) hb); have n1_ := Aside0.mk (Kd.R_lower ho0 (below_size (by repeat (first | (with_reducible first | exact HB.out | apply below_alloc | apply pw_below_drewN | apply below_drew1 | refine below_set ?_ GE575.out) | exact HB.out)))); have n2_ := Aside0.mk (blk_below (g := gb575) (o := .cells #[.int .i64 a0_0, .slice A0_1 l0_1.length c0_1] 24 (0, 0)) (by (with_reducible repeat (first | refine blk_drewN ?_ _ | refine blk_drew ?_ | refine blk_alloc ?_ _)); exact BK575.out) hb); have n3_ := Aside0.mk (below_step (by repeat (first | (with_reducible first | exact HB.out | apply below_alloc | apply pw_below_drewN | apply below_drew1 | refine below_set ?_ GE575.out) | exact HB.out)) hb); clear HO_5; clear BK575; clear HB; have HO_5 := n0_; have HO593 := n1_; have BK575 := n2_; have HB := n3_; clear n0_ n1_ n2_ n3_; (try clear hb); (try clear hb2); (try clear hk); (try clear hi); (try clear ho0); obtain ⟨Ao32, co32, eo32⟩ := Kd.R_slice HO593.out; subst eo32) | ((with_reducible refine gate_callee (f := 43) rfl ?_); refine goesL_ (some 49) rfl rfl Try.func43 (by kernel_rfl) rfl #[.agg #[.int .i64 t590, .slice Ao32 t591.length co32], .int .i64 x7_2] rfl (by (try simp only [List.map_toArray, List.map_cons, List.map_nil]); first | done | rfl | (simp only [List.length_drop, List.length_take]; rfl)) ?_; (with_reducible refine (league_CanFirst.calls t590 _ _ t591 x7_2 t594 t595 _ ?side1 ?side2 A24.out).mono ?_); (case side1 => repeat (first | exact (Kd.R_reads' HO593.out).2.2 | (with_reducible refine Kd.C_alloc ?_ _) | (with_reducible refine Kd.C_drewN ?_ _) | (with_reducible refine Kd.C_drew ?_))); (case side2 => exact (Kd.R_reads' HO593.out).2.1); rintro e w33 ⟨rfl, hb⟩; refine ⟨_, rfl, ?_⟩; have n0_ := Aside0.mk (Kd.R_below (by (with_reducible repeat (first | apply Kd.R_alloc | apply Kd.R_drewN | apply Kd.R_drew)); exact HO_5.out) hb); have n1_ := Aside0.mk (Kd.R_below (by (with_reducible repeat (first | apply Kd.R_alloc | apply Kd.R_drewN | apply Kd.R_drew)); exact HO593.out) hb); have n2_ := Aside0.mk (blk_below (g := gb575) (o := .cells #[.int .i64 a0_0, .slice A0_1 l0_1.length c0_1] 24 (0, 0)) (by (with_reducible repeat (first | refine blk_drewN ?_ _ | refine blk_drew ?_ | refine blk_alloc ?_ _)); exact BK575.out) hb); have n3_ := Aside0.mk (below_step (by repeat (first | (with_reducible first | exact HB.out | apply below_alloc | apply pw_below_drewN | apply below_drew1 | refine below_set ?_ GE575.out) | exact HB.out)) hb); clear HO_5; clear HO593; clear BK575; clear HB; have HO_5 := n0_; have HO593 := n1_; have BK575 := n2_; have HB := n3_; clear n0_ n1_ n2_ n3_; (try clear hb); (try clear hb2); (try clear hk); (try clear hi); have hcz34_0 : w33.cell? ⟨gb575, 0, none⟩ = some (.int .i64 a0_0) := (blk_cell BK575.out 0).trans rfl; have hcz34_1 : w33.cell? ⟨gb575, 1, none⟩ = some (.slice A0_1 l0_1.length c0_1) := (blk_cell BK575.out 1).trans rfl; have hfz34_0 := blk_frozen BK575.out 0; have hfz34_1 := blk_frozen BK575.out 1) | ((with_reducible refine gate_callee (f := 18) rfl ?_); refine goesL_ (some 54) rfl rfl Try.func18 (by kernel_rfl) rfl #[.agg #[.int .i64 a0_0, .slice A0_1 l0_1.length c0_1]] rfl (by (try simp only [List.map_toArray, List.map_cons, List.map_nil]); first | done | rfl | (simp only [List.length_drop, List.length_take]; rfl)) ?_; (with_reducible refine (kingpinlaw08_League.calls k2 a0_0 _ _ l0_1 t596 t597 _ ?side1 ?side2 A25.out).mono ?_); (case side1 => repeat (first | exact (Kd.C_below HR0_1.out HB.out) | (with_reducible refine Kd.C_alloc ?_ _) | (with_reducible refine Kd.C_drewN ?_ _) | (with_reducible refine Kd.C_drew ?_))); (case side2 => exact HC0_1.out); rintro e w35 ⟨v598, rfl, ho0, hb⟩; refine ⟨_, rfl, ?_⟩; have n0_ := Aside0.mk (Kd.R_below (by (with_reducible repeat (first | apply Kd.R_alloc | apply Kd.R_drewN | apply Kd.R_drew)); exact HO_5.out) hb); have n1_ := Aside0.mk (Kd.R_elder' (by (with_reducible repeat (first | apply Kd.R_alloc | apply Kd.R_drewN | apply Kd.R_drew)); exact HO593.out) (Kd.R_base ho0) hb); have n2_ := Aside0.mk (Kd.R_lower (Kd.R_new' ho0 (Kd.R_lt (by (with_reducible repeat (first | apply Kd.R_alloc | apply Kd.R_drewN | apply Kd.R_drew)); exact HO593.out))) (below_size (by repeat (first | (with_reducible first | exact HB.out | apply below_alloc | apply pw_below_drewN | apply below_drew1 | refine below_set ?_ GE575.out) | exact HB.out)))); have n3_ := Aside0.mk (blk_below (g := gb575) (o := .cells #[.int .i64 a0_0, .slice A0_1 l0_1.length c0_1] 24 (0, 0)) (by (with_reducible repeat (first | refine blk_drewN ?_ _ | refine blk_drew ?_ | refine blk_alloc ?_ _)); exact BK575.out) hb); have n4_ := Aside0.mk (below_step (by repeat (first | (with_reducible first | exact HB.out | apply below_alloc | apply pw_below_drewN | apply below_drew1 | refine below_set ?_ GE575.out) | exact HB.out)) hb); clear HO_5; clear HO593; clear BK575; clear HB; have HO_5 := n0_; have HO593 := n1_; have HO599 := n2_; have BK575 := n3_; have HB := n4_; clear n0_ n1_ n2_ n3_ n4_; (try clear hb); (try clear hb2); (try clear hk); (try clear hi); (try clear ho0); obtain ⟨Ao36, co36, eo36⟩ := Kd.R_slice HO599.out; subst eo36) | ((with_reducible refine gate_callee (f := 44) rfl ?_); refine goesL_ (some 56) rfl rfl Try.func44 (by kernel_rfl) rfl #[.agg #[.int .i64 t596, .slice Ao36 t597.length co36], .int .i64 x7_2] rfl (by (try simp only [List.map_toArray, List.map_cons, List.map_nil]); first | done | rfl | (simp only [List.length_drop, List.length_take]; rfl)) ?_; (with_reducible refine (league_Surely.calls t596 _ _ t597 x7_2 t600 t601 _ ?side1 ?side2 A26.out).mono ?_); (case side1 => repeat (first | exact (Kd.R_reads' HO599.out).2.2 | (with_reducible refine Kd.C_alloc ?_ _) | (with_reducible refine Kd.C_drewN ?_ _) | (with_reducible refine Kd.C_drew ?_))); (case side2 => exact (Kd.R_reads' HO599.out).2.1); rintro e w37 ⟨rfl, hb⟩; refine ⟨_, rfl, ?_⟩; have n0_ := Aside0.mk (Kd.R_below (by (with_reducible repeat (first | apply Kd.R_alloc | apply Kd.R_drewN | apply Kd.R_drew)); exact HO_5.out) hb); have n1_ := Aside0.mk (Kd.R_below (by (with_reducible repeat (first | apply Kd.R_alloc | apply Kd.R_drewN | apply Kd.R_drew)); exact HO593.out) hb); have n2_ := Aside0.mk (Kd.R_below (by (with_reducible repeat (first | apply Kd.R_alloc | apply Kd.R_drewN | apply Kd.R_drew)); exact HO599.out) hb); have n3_ := Aside0.mk (blk_below (g := gb575) (o := .cells #[.int .i64 a0_0, .slice A0_1 l0_1.length c0_1] 24 (0, 0)) (by (with_reducible repeat (first | refine blk_drewN ?_ _ | refine blk_drew ?_ | refine blk_alloc ?_ _)); exact BK575.out) hb); have n4_ := Aside0.mk (below_step (by repeat (first | (with_reducible first | exact HB.out | apply below_alloc | apply pw_below_drewN | apply below_drew1 | refine below_set ?_ GE575.out) | exact HB.out)) hb); clear HO_5; clear HO593; clear HO599; clear BK575; clear HB; have HO_5 := n0_; have HO593 := n1_; have HO599 := n2_; have BK575 := n3_; have HB := n4_; clear n0_ n1_ n2_ n3_ n4_; (try clear hb); (try clear hb2); (try clear hk); (try clear hi); have hcz38_0 : w37.cell? ⟨gb575, 0, none⟩ = some (.int .i64 a0_0) := (blk_cell BK575.out 0).trans rfl; have hcz38_1 : w37.cell? ⟨gb575, 1, none⟩ = some (.slice A0_1 l0_1.length c0_1) := (blk_cell BK575.out 1).trans rfl; have hfz38_0 := blk_frozen BK575.out 0; have hfz38_1 := blk_frozen BK575.out 1) | ((with_reducible refine gate_callee (f := 18) rfl ?_); refine goesL_ (some 61) rfl rfl Try.func18 (by kernel_rfl) rfl #[.agg #[.int .i64 a0_0, .slice A0_1 l0_1.length c0_1]] rfl (by (try simp only [List.map_toArray, List.map_cons, List.map_nil]); first | done | rfl | (simp only [List.length_drop, List.length_take]; rfl)) ?_; (with_reducible refine (kingpinlaw08_League.calls k2 a0_0 _ _ l0_1 t602 t603 _ ?side1 ?side2 A27.out).mono ?_); (case side1 => repeat (first | exact (Kd.C_below HR0_1.out HB.out) | (with_reducible refine Kd.C_alloc ?_ _) | (with_reducible refine Kd.C_drewN ?_ _) | (with_reducible refine Kd.C_drew ?_))); (case side2 => exact HC0_1.out); rintro e w39 ⟨v604, rfl, ho0, hb⟩; refine ⟨_, rfl, ?_⟩; have n0_ := Aside0.mk (Kd.R_below (by (with_reducible repeat (first | apply Kd.R_alloc | apply Kd.R_drewN | apply Kd.R_drew)); exact HO_5.out) hb); have n1_ := Aside0.mk (Kd.R_elder' (by (with_reducible repeat (first | apply Kd.R_alloc | apply Kd.R_drewN | apply Kd.R_drew)); exact HO593.out) (Kd.R_base ho0) hb); have n2_ := Aside0.mk (Kd.R_elder' (by (with_reducible repeat (first | apply Kd.R_alloc | apply Kd.R_drewN | apply Kd.R_drew)); exact HO599.out) (Kd.R_base ho0) hb); have n3_ := Aside0.mk (Kd.R_lower (Kd.R_new' (Kd.R_new' ho0 (Kd.R_lt (by (with_reducible repeat (first | apply Kd.R_alloc | apply Kd.R_drewN | apply Kd.R_drew)); exact HO593.out))) (Kd.R_lt (by (with_reducible repeat (first | apply Kd.R_alloc | apply Kd.R_drewN | apply Kd.R_drew)); exact HO599.out))) (below_size (by repeat (first | (with_reducible first | exact HB.out | apply below_alloc | apply pw_below_drewN | apply below_drew1 | refine below_set ?_ GE575.out) | exact HB.out)))); have n4_ := Aside0.mk (blk_below (g := gb575) (o := .cells #[.int .i64 a0_0, .slice A0_1 l0_1.length c0_1] 24 (0, 0)) (by (with_reducible repeat (first | refine blk_drewN ?_ _ | refine blk_drew ?_ | refine blk_alloc ?_ _)); exact BK575.out) hb); have n5_ := Aside0.mk (below_step (by repeat (first | (with_reducible first | exact HB.out | apply below_alloc | apply pw_below_drewN | apply below_drew1 | refine below_set ?_ GE575.out) | exact HB.out)) hb); clear HO_5; clear HO593; clear HO599; clear BK575; clear HB; have HO_5 := n0_; have HO593 := n1_; have HO599 := n2_; have HO605 := n3_; have BK575 := n4_; have HB := n5_; clear n0_ n1_ n2_ n3_ n4_ n5_; (try clear hb); (try clear hb2); (try clear hk); (try clear hi); (try clear ho0); obtain ⟨Ao40, co40, eo40⟩ := Kd.R_slice HO605.out; subst eo40) | ((with_reducible refine gate_callee (f := 37) rfl ?_); refine goesL_ (some 63) rfl rfl Try.func37 (by kernel_rfl) rfl #[.agg #[.int .i64 t602, .slice Ao40 t603.length co40], .int .i64 x7_2] rfl (by (try simp only [List.map_toArray, List.map_cons, List.map_nil]); first | done | rfl | (simp only [List.length_drop, List.length_take]; rfl)) ?_; (with_reducible refine (league_Reason.calls t602 _ _ t603 x7_2 t606 t609 _ ?side1 ?side2 A28.out).mono ?_); (case side1 => repeat (first | exact (Kd.R_reads' HO605.out).2.2 | (with_reducible refine Kd.C_alloc ?_ _) | (with_reducible refine Kd.C_drewN ?_ _) | (with_reducible refine Kd.C_drew ?_))); (case side2 => exact (Kd.R_reads' HO605.out).2.1); rintro e w41 ⟨v607, rfl, ho0, hb⟩; refine ⟨_, rfl, ?_⟩; have n0_ := Aside0.mk (Kd.R_elder' (by (with_reducible repeat (first | apply Kd.R_alloc | apply Kd.R_drewN | apply Kd.R_drew)); exact HO_5.out) (Kd.R_base ho0) hb); have n1_ := Aside0.mk (Kd.R_below (by (with_reducible repeat (first | apply Kd.R_alloc | apply Kd.R_drewN | apply Kd.R_drew)); exact HO593.out) hb); have n2_ := Aside0.mk (Kd.R_below (by (with_reducible repeat (first | apply Kd.R_alloc | apply Kd.R_drewN | apply Kd.R_drew)); exact HO599.out) hb); have n3_ := Aside0.mk (Kd.R_below (by (with_reducible repeat (first | apply Kd.R_alloc | apply Kd.R_drewN | apply Kd.R_drew)); exact HO605.out) hb); have n4_ := Aside0.mk (Kd.R_lower (Kd.R_new' ho0 (Kd.R_lt (by (with_reducible repeat (first | apply Kd.R_alloc | apply Kd.R_drewN | apply Kd.R_drew)); exact HO_5.out))) (below_size (by repeat (first | (with_reducible first | exact HB.out | apply below_alloc | apply pw_below_drewN | apply below_drew1 | refine below_set ?_ GE575.out) | exact HB.out)))); have n5_ := Aside0.mk (blk_below (g := gb575) (o := .cells #[.int .i64 a0_0, .slice A0_1 l0_1.length c0_1] 24 (0, 0)) (by (with_reducible repeat (first | refine blk_drewN ?_ _ | refine blk_drew ?_ | refine blk_alloc ?_ _)); exact BK575.out) hb); have n6_ := Aside0.mk (below_step (by repeat (first | (with_reducible first | exact HB.out | apply below_alloc | apply pw_below_drewN | apply below_drew1 | refine below_set ?_ GE575.out) | exact HB.out)) hb); clear HO_5; clear HO593; clear HO599; clear HO605; clear BK575; clear HB; have HO_5 := n0_; have HO593 := n1_; have HO599 := n2_; have HO605 := n3_; have HO608 := n4_; have BK575 := n5_; have HB := n6_; clear n0_ n1_ n2_ n3_ n4_ n5_ n6_; (try clear hb); (try clear hb2); (try clear hk); (try clear hi); (try clear ho0)))
        (try simp only [Act.put, List.setIfInBounds_toArray, List.set_cons_zero, List.set_cons_succ])
        go_cut [92] (fun v92 wc => ∃ (kq : Nat) (x92_28 : Bool), v92 = .bool x92_28 ∧ Aside0 (kingpinlaw08_LeagueTruth.j2 kq t585 x7_2 t594 t600 t606 x92_28 a0_0 l0_1 = some r) ∧ Aside0 (kq ≤ k2) ∧ Aside0 (Kd.R (Kd.int .i64) 3 wc w.heap.size (fun k_ => some k_ ≠ (v607 : Value).ownBlock) v586 t585) ∧ Aside0 (Kd.R (Kd.int .i64) 3 wc w.heap.size (fun k_ => some k_ ≠ (v586 : Value).ownBlock) v607 t606) ∧ Aside0 (wc.heap[gb575]? = some (.cells #[.int .i64 a0_0, (.slice A0_1 l0_1.length c0_1)] 24 (0, 0))) ∧ Aside0 (Below w.heap.size w wc))
        case first =>
         have H := HC29.out
         clear HC29
         by_cases c42 : t595 = 0
         ·
          rw [if_pos c42] at H
          have c42b0 : (t595 == 0) = true := beq_iff_eq.mpr c42
          have c42b1 : (t595 != 0) = false := bne_eq_false_iff_eq.mpr c42
          clear c42
          (first | rw [c42b0] | (simp only [i64_w, i32_w]; rw [c42b0]) | skip)
          by_cases c43 : t601 = 0
          ·
           rw [if_pos c43] at H
           have c43b0 : (t601 == 0) = true := beq_iff_eq.mpr c43
           have c43b1 : (t601 != 0) = false := bne_eq_false_iff_eq.mpr c43
           clear c43
           by_cases c44 : t600 = true
           ·
            subst c44
            have H1 : (if t594 = true then (if (t594 != (t609 == 7)) = true then (kingpinlaw08_LeagueTruth.j2 k2 t585 x7_2 t594 true t606 true a0_0 l0_1) else (kingpinlaw08_LeagueTruth.j2 k2 t585 x7_2 t594 true t606 false a0_0 l0_1)) else (kingpinlaw08_LeagueTruth.j2 k2 t585 x7_2 t594 true t606 true a0_0 l0_1)) = some r := by rw [if_pos rfl] at H; exact H
            clear H
            have H := H1
            clear H1
            by_cases c45 : t594 = true
            ·
             subst c45
             have H1 : (if (true != (t609 == 7)) = true then (kingpinlaw08_LeagueTruth.j2 k2 t585 x7_2 true true t606 true a0_0 l0_1) else (kingpinlaw08_LeagueTruth.j2 k2 t585 x7_2 true true t606 false a0_0 l0_1)) = some r := by rw [if_pos rfl] at H; exact H
             clear H
             have H := H1
             clear H1
             by_cases c46 : (true != (t609 == 7)) = true
             ·
              rw [if_pos c46] at H
              have c46b0 : (true != (t609 == 7)) = true := c46
              (try (have c46b1 : decide (true = (t609 == 7)) = false := by simpa using c46))
              (try (have c46b2 : (true == (t609 == 7)) = false := by simpa using c46))
              (try (have c46b3 : ¬ (true = (t609 == 7)) := by simpa using c46))
              clear c46
              have H' := Aside0.mk H
              clear H
              go_wp2
              go_meet
              case rel => exact ⟨_, (true), (by first | rfl | (simp; done) | (simp [*]; done)), H', ⟨by have := HJ7.out; have := HK2.out; first | omega | exact Nat.le_refl _⟩, ⟨by (with_reducible repeat (first | apply Kd.R_alloc | apply Kd.R_drewN | apply Kd.R_drew)); exact Kd.R_mono HO_5.out (fun _ hk => hk.2)⟩, ⟨by (with_reducible repeat (first | apply Kd.R_alloc | apply Kd.R_drewN | apply Kd.R_drew)); exact Kd.R_mono HO608.out (fun _ hk => hk.2)⟩, ⟨by (with_reducible repeat (first | refine blk_drewN ?_ _ | refine blk_drew ?_ | refine blk_alloc ?_ _)); exact BK575.out⟩, ⟨by repeat (first | (with_reducible first | exact HB.out | apply below_alloc | apply pw_below_drewN | apply below_drew1 | refine below_set ?_ GE575.out) | exact HB.out)⟩⟩
             ·
              rw [if_neg c46] at H
              have c46b0 : (true != (t609 == 7)) = false := by simpa using c46
              (try (have c46b1 : decide (true = (t609 == 7)) = true := by simpa using c46))
              (try (have c46b2 : (true == (t609 == 7)) = true := by simpa using c46))
              clear c46
              have H' := Aside0.mk H
              clear H
              go_wp2
              go_meet
              case rel => exact ⟨_, (false), (by first | rfl | (simp; done) | (simp [*]; done)), H', ⟨by have := HJ7.out; have := HK2.out; first | omega | exact Nat.le_refl _⟩, ⟨by (with_reducible repeat (first | apply Kd.R_alloc | apply Kd.R_drewN | apply Kd.R_drew)); exact Kd.R_mono HO_5.out (fun _ hk => hk.2)⟩, ⟨by (with_reducible repeat (first | apply Kd.R_alloc | apply Kd.R_drewN | apply Kd.R_drew)); exact Kd.R_mono HO608.out (fun _ hk => hk.2)⟩, ⟨by (with_reducible repeat (first | refine blk_drewN ?_ _ | refine blk_drew ?_ | refine blk_alloc ?_ _)); exact BK575.out⟩, ⟨by repeat (first | (with_reducible first | exact HB.out | apply below_alloc | apply pw_below_drewN | apply below_drew1 | refine below_set ?_ GE575.out) | exact HB.out)⟩⟩
            ·
             replace c45 := Bool.eq_false_iff.mpr c45
             subst c45
             have H1 : (kingpinlaw08_LeagueTruth.j2 k2 t585 x7_2 false true t606 true a0_0 l0_1) = some r := by rw [if_neg (show ¬ (false = true) by decide)] at H; exact H
             clear H
             have H := H1
             clear H1
             have H' := Aside0.mk H
             clear H
             go_wp2
             go_meet
             case rel => exact ⟨_, (true), (by first | rfl | (simp; done) | (simp [*]; done)), H', ⟨by have := HJ7.out; have := HK2.out; first | omega | exact Nat.le_refl _⟩, ⟨by (with_reducible repeat (first | apply Kd.R_alloc | apply Kd.R_drewN | apply Kd.R_drew)); exact Kd.R_mono HO_5.out (fun _ hk => hk.2)⟩, ⟨by (with_reducible repeat (first | apply Kd.R_alloc | apply Kd.R_drewN | apply Kd.R_drew)); exact Kd.R_mono HO608.out (fun _ hk => hk.2)⟩, ⟨by (with_reducible repeat (first | refine blk_drewN ?_ _ | refine blk_drew ?_ | refine blk_alloc ?_ _)); exact BK575.out⟩, ⟨by repeat (first | (with_reducible first | exact HB.out | apply below_alloc | apply pw_below_drewN | apply below_drew1 | refine below_set ?_ GE575.out) | exact HB.out)⟩⟩
           ·
            replace c44 := Bool.eq_false_iff.mpr c44
            subst c44
            have H1 : (if (t594 != (t609 == 7)) = true then (kingpinlaw08_LeagueTruth.j2 k2 t585 x7_2 t594 false t606 true a0_0 l0_1) else (if t594 = true then (kingpinlaw08_LeagueTruth.j2 k2 t585 x7_2 t594 false t606 false a0_0 l0_1) else (kingpinlaw08_LeagueTruth.j2 k2 t585 x7_2 t594 false t606 (t609 != 0) a0_0 l0_1))) = some r := by rw [if_neg (show ¬ (false = true) by decide)] at H; exact H
            clear H
            have H := H1
            clear H1
            by_cases c47 : (t594 != (t609 == 7)) = true
            ·
             rw [if_pos c47] at H
             have c47b0 : (t594 != (t609 == 7)) = true := c47
             (try (have c47b1 : decide (t594 = (t609 == 7)) = false := by simpa using c47))
             (try (have c47b2 : (t594 == (t609 == 7)) = false := by simpa using c47))
             (try (have c47b3 : ¬ (t594 = (t609 == 7)) := by simpa using c47))
             clear c47
             have H' := Aside0.mk H
             clear H
             go_wp2
             go_meet
             case rel => exact ⟨_, (true), (by first | rfl | (simp; done) | (simp [*]; done)), H', ⟨by have := HJ7.out; have := HK2.out; first | omega | exact Nat.le_refl _⟩, ⟨by (with_reducible repeat (first | apply Kd.R_alloc | apply Kd.R_drewN | apply Kd.R_drew)); exact Kd.R_mono HO_5.out (fun _ hk => hk.2)⟩, ⟨by (with_reducible repeat (first | apply Kd.R_alloc | apply Kd.R_drewN | apply Kd.R_drew)); exact Kd.R_mono HO608.out (fun _ hk => hk.2)⟩, ⟨by (with_reducible repeat (first | refine blk_drewN ?_ _ | refine blk_drew ?_ | refine blk_alloc ?_ _)); exact BK575.out⟩, ⟨by repeat (first | (with_reducible first | exact HB.out | apply below_alloc | apply pw_below_drewN | apply below_drew1 | refine below_set ?_ GE575.out) | exact HB.out)⟩⟩
            ·
             rw [if_neg c47] at H
             have c47b0 : (t594 != (t609 == 7)) = false := by simpa using c47
             (try (have c47b1 : decide (t594 = (t609 == 7)) = true := by simpa using c47))
             (try (have c47b2 : (t594 == (t609 == 7)) = true := by simpa using c47))
             clear c47
             by_cases c48 : t594 = true
             ·
              subst c48
              have H1 : (kingpinlaw08_LeagueTruth.j2 k2 t585 x7_2 true false t606 false a0_0 l0_1) = some r := by rw [if_pos rfl] at H; exact H
              clear H
              have H := H1
              clear H1
              have H' := Aside0.mk H
              clear H
              go_wp2
              go_meet
              case rel => exact ⟨_, (false), (by first | rfl | (simp; done) | (simp [*]; done)), H', ⟨by have := HJ7.out; have := HK2.out; first | omega | exact Nat.le_refl _⟩, ⟨by (with_reducible repeat (first | apply Kd.R_alloc | apply Kd.R_drewN | apply Kd.R_drew)); exact Kd.R_mono HO_5.out (fun _ hk => hk.2)⟩, ⟨by (with_reducible repeat (first | apply Kd.R_alloc | apply Kd.R_drewN | apply Kd.R_drew)); exact Kd.R_mono HO608.out (fun _ hk => hk.2)⟩, ⟨by (with_reducible repeat (first | refine blk_drewN ?_ _ | refine blk_drew ?_ | refine blk_alloc ?_ _)); exact BK575.out⟩, ⟨by repeat (first | (with_reducible first | exact HB.out | apply below_alloc | apply pw_below_drewN | apply below_drew1 | refine below_set ?_ GE575.out) | exact HB.out)⟩⟩
             ·
              replace c48 := Bool.eq_false_iff.mpr c48
              subst c48
              have H1 : (kingpinlaw08_LeagueTruth.j2 k2 t585 x7_2 false false t606 (t609 != 0) a0_0 l0_1) = some r := by rw [if_neg (show ¬ (false = true) by decide)] at H; exact H
              clear H
              have H := H1
              clear H1
              have H' := Aside0.mk H
              clear H
              go_wp2
              go_meet
              case rel => exact ⟨_, ((t609 != 0)), (by first | rfl | (simp; done) | (simp [*]; done)), H', ⟨by have := HJ7.out; have := HK2.out; first | omega | exact Nat.le_refl _⟩, ⟨by (with_reducible repeat (first | apply Kd.R_alloc | apply Kd.R_drewN | apply Kd.R_drew)); exact Kd.R_mono HO_5.out (fun _ hk => hk.2)⟩, ⟨by (with_reducible repeat (first | apply Kd.R_alloc | apply Kd.R_drewN | apply Kd.R_drew)); exact Kd.R_mono HO608.out (fun _ hk => hk.2)⟩, ⟨by (with_reducible repeat (first | refine blk_drewN ?_ _ | refine blk_drew ?_ | refine blk_alloc ?_ _)); exact BK575.out⟩, ⟨by repeat (first | (with_reducible first | exact HB.out | apply below_alloc | apply pw_below_drewN | apply below_drew1 | refine below_set ?_ GE575.out) | exact HB.out)⟩⟩
          ·
           rw [if_neg c43] at H
           have c43b0 : (t601 == 0) = false := beq_eq_false_iff_ne.mpr c43
           have c43b1 : (t601 != 0) = true := bne_iff_ne.mpr c43
           have H' := Aside0.mk H
           clear H
           go_wp2
           go_meet
           case rel => exact ⟨_, (true), (by first | rfl | (simp; done) | (simp [*]; done)), H', ⟨by have := HJ7.out; have := HK2.out; first | omega | exact Nat.le_refl _⟩, ⟨by (with_reducible repeat (first | apply Kd.R_alloc | apply Kd.R_drewN | apply Kd.R_drew)); exact Kd.R_mono HO_5.out (fun _ hk => hk.2)⟩, ⟨by (with_reducible repeat (first | apply Kd.R_alloc | apply Kd.R_drewN | apply Kd.R_drew)); exact Kd.R_mono HO608.out (fun _ hk => hk.2)⟩, ⟨by (with_reducible repeat (first | refine blk_drewN ?_ _ | refine blk_drew ?_ | refine blk_alloc ?_ _)); exact BK575.out⟩, ⟨by repeat (first | (with_reducible first | exact HB.out | apply below_alloc | apply pw_below_drewN | apply below_drew1 | refine below_set ?_ GE575.out) | exact HB.out)⟩⟩
         ·
          rw [if_neg c42] at H
          have c42b0 : (t595 == 0) = false := beq_eq_false_iff_ne.mpr c42
          have c42b1 : (t595 != 0) = true := bne_iff_ne.mpr c42
          (first | rw [c42b0] | (simp only [i64_w, i32_w]; rw [c42b0]) | skip)
          have H' := Aside0.mk H
          clear H
          go_wp2
          go_meet
          case rel => exact ⟨_, (true), (by first | rfl | (simp; done) | (simp [*]; done)), H', ⟨by have := HJ7.out; have := HK2.out; first | omega | exact Nat.le_refl _⟩, ⟨by (with_reducible repeat (first | apply Kd.R_alloc | apply Kd.R_drewN | apply Kd.R_drew)); exact Kd.R_mono HO_5.out (fun _ hk => hk.2)⟩, ⟨by (with_reducible repeat (first | apply Kd.R_alloc | apply Kd.R_drewN | apply Kd.R_drew)); exact Kd.R_mono HO608.out (fun _ hk => hk.2)⟩, ⟨by (with_reducible repeat (first | refine blk_drewN ?_ _ | refine blk_drew ?_ | refine blk_alloc ?_ _)); exact BK575.out⟩, ⟨by repeat (first | (with_reducible first | exact HB.out | apply below_alloc | apply pw_below_drewN | apply below_drew1 | refine below_set ?_ GE575.out) | exact HB.out)⟩⟩
        case rest =>
         clear HC29
         try clear c1
         try clear c2
         try clear p2
         try clear c3
         try clear c4
         try clear c10
         try clear c18
         try clear c18b0
         try clear c18b1
         try clear c21
         try clear c22
         try clear c22b0
         try clear c25
         try clear c34
         try clear c36
         try clear c37
         try clear c42
         try clear c42b0
         try clear c42b1
         try clear c43
         try clear c43b0
         try clear c43b1
         try clear c44
         try clear c45
         try clear c46
         try clear c46b0
         try clear c46b1
         try clear c46b2
         try clear c47
         try clear c47b0
         try clear c47b1
         try clear c47b2
         try clear c48
         try clear hcz10_0
         try clear hcz10_1
         try clear hcz20_0
         try clear hcz20_1
         try clear hcz30_0
         try clear hcz30_1
         try clear hcz34_0
         try clear hcz34_1
         try clear hcz38_0
         try clear hcz38_1
         try clear hfz10_0
         try clear hfz10_1
         try clear hfz20_0
         try clear hfz20_1
         try clear hfz30_0
         try clear hfz30_1
         try clear hfz34_0
         try clear hfz34_1
         try clear hfz38_0
         try clear hfz38_1
         try clear p2
         obtain ⟨kq, x92_28, rfl, HA, HJ28, HO_5, HO_12, BK575, HB⟩ := hcut
         cases kq with
         | zero => exact absurd HA.out (by simp [kingpinlaw08_LeagueTruth.j2])
         | succ kj28 =>
          have H := HA.out
          clear HA
          simp only [kingpinlaw08_LeagueTruth.j2] at H
          by_cases c49 : x92_28 = true
          ·
           subst c49
           have H1 : (some false) = some r := by rw [if_pos rfl] at H; exact H
           clear H
           have H := H1
           clear H1
           obtain rfl := Option.some.inj H
           go_wp2
           go_ret
           exact ⟨by first | rfl | (simp [errW_none, errW_some] <;> rfl) | (simp [*, errW_none, errW_some] <;> rfl), by repeat (first | (with_reducible first | exact HB.out | apply below_alloc | apply pw_below_drewN | apply below_drew1 | refine below_set ?_ GE575.out) | exact HB.out)⟩
          ·
           replace c49 := Bool.eq_false_iff.mpr c49
           subst c49
           have H1 : ((kingpinref08_First.f kj28 t585 x7_2).bind fun t610 => (kingpinlaw08_LeagueTruth.l1 kj28 t585 x7_2 t594 t600 t606 t610 false 0 a0_0 l0_1)) = some r := by rw [if_neg (show ¬ (false = true) by decide)] at H; exact H
           clear H
           have H := H1
           clear H1
           replace H := Option.bind_eq_some_iff.mp H
           obtain ⟨t610, A500, H⟩ := H
           replace H : (kingpinlaw08_LeagueTruth.l1 kj28 t585 x7_2 t594 t600 t606 t610 false 0 a0_0 l0_1) = some r := H
           have A50 := Aside0.mk A500
           clear A500
           have H' := Aside0.mk H
           clear H
           obtain ⟨Ao51, co51, eo51⟩ := Kd.R_slice HO_5.out
           subst eo51
           go_wp2_with (first | ((with_reducible refine gate_callee (f := 45) rfl ?_); refine goesL_ (some 95) rfl rfl Try.func45 (by kernel_rfl) rfl #[.slice Ao51 t585.length co51, .int .i64 x7_2] rfl (by (try simp only [List.map_toArray, List.map_cons, List.map_nil]); first | done | rfl | (simp only [List.length_drop, List.length_take]; rfl)) ?_; (with_reducible refine (kingpinref08_First.calls kj28 _ _ t585 x7_2 t610 _ ?side1 ?side2 A50.out).mono ?_); (case side1 => repeat (first | exact (Kd.R_reads' HO_5.out).2.2 | (with_reducible refine Kd.C_alloc ?_ _) | (with_reducible refine Kd.C_drewN ?_ _) | (with_reducible refine Kd.C_drew ?_))); (case side2 => exact (Kd.R_reads' HO_5.out).2.1); rintro e w' ⟨rfl, ⟨nd, rfl⟩⟩; refine ⟨_, rfl, ?_⟩))
           go_loopg [15, 16] kj28 (fun kq v15 v16 w' => ∃ (x15_4 : Bool) (x16_4 : Int), v15 = .bool x15_4 ∧ v16 = .int .i64 x16_4 ∧ Aside0 (kingpinlaw08_LeagueTruth.l1 kq t585 x7_2 t594 t600 t606 t610 x15_4 x16_4 a0_0 l0_1 = some r) ∧ Aside0 (kq ≤ kj28) ∧ Aside0 (Kd.R (Kd.int .i64) 3 w' w.heap.size (fun k_ => some k_ ≠ (v607 : Value).ownBlock) (.slice Ao51 t585.length co51) t585) ∧ Aside0 (Kd.R (Kd.int .i64) 3 w' w.heap.size (fun k_ => some k_ ≠ ((.slice Ao51 t585.length co51) : Value).ownBlock) v607 t606) ∧ Aside0 (w'.heap[gb575]? = some (.cells #[.int .i64 a0_0, (.slice A0_1 l0_1.length c0_1)] 24 (0, 0))) ∧ Aside0 (Below w.heap.size w w'))
           case atStart => exact ⟨(false), (0), (by first | rfl | (simp; done) | (simp [*]; done)), (by first | rfl | (simp; done) | (simp [*]; done)), H', ⟨Nat.le_refl _⟩, ⟨by (with_reducible repeat (first | apply Kd.R_alloc | apply Kd.R_drewN | apply Kd.R_drew)); exact HO_5.out⟩, ⟨by (with_reducible repeat (first | apply Kd.R_alloc | apply Kd.R_drewN | apply Kd.R_drew)); exact HO_12.out⟩, ⟨by (with_reducible repeat (first | refine blk_drewN ?_ _ | refine blk_drew ?_ | refine blk_alloc ?_ _)); exact BK575.out⟩, ⟨by repeat (first | (with_reducible first | exact HB.out | apply below_alloc | apply pw_below_drewN | apply below_drew1 | refine below_set ?_ GE575.out) | exact HB.out)⟩⟩
           case round =>
            clear H'
            try clear c1
            try clear c2
            try clear p2
            try clear c3
            try clear c4
            try clear c10
            try clear c18
            try clear c18b0
            try clear c18b1
            try clear c21
            try clear c22
            try clear c22b0
            try clear c25
            try clear c34
            try clear c36
            try clear c37
            try clear c42
            try clear c42b0
            try clear c42b1
            try clear c43
            try clear c43b0
            try clear c43b1
            try clear c44
            try clear c45
            try clear c46
            try clear c46b0
            try clear c46b1
            try clear c46b2
            try clear c47
            try clear c47b0
            try clear c47b1
            try clear c47b2
            try clear c48
            try clear c49
            try clear hcz10_0
            try clear hcz10_1
            try clear hcz20_0
            try clear hcz20_1
            try clear hcz30_0
            try clear hcz30_1
            try clear hcz34_0
            try clear hcz34_1
            try clear hcz38_0
            try clear hcz38_1
            try clear hfz10_0
            try clear hfz10_1
            try clear hfz20_0
            try clear hfz20_1
            try clear hfz30_0
            try clear hfz30_1
            try clear hfz34_0
            try clear hfz34_1
            try clear hfz38_0
            try clear hfz38_1
            try clear p2
            obtain ⟨x15_4, x16_4, rfl, rfl, HA, HK4, HO_5, HO_12, BK575, HB⟩ := hrel
            cases gk with
            | zero => exact absurd HA.out (by simp [kingpinlaw08_LeagueTruth.l1])
            | succ k4 =>
             have H := HA.out
             clear HA
             simp only [kingpinlaw08_LeagueTruth.l1] at H
             by_cases c52 : x16_4 < (t606.length : Int)
             ·
              rw [if_pos c52] at H
              have c52b0 : decide (x16_4 < (t606.length : Int)) = true := decide_eq_true c52
              clear c52
              by_cases c53 : 0 ≤ x16_4
              ·
               rw [if_pos c53] at H
               have c53b0 : decide (0 ≤ x16_4) = true := decide_eq_true c53
               clear c53
               replace H := Option.bind_eq_some_iff.mp H
               obtain ⟨t612, A540, H⟩ := H
               replace H : (if t612 = true then (if x15_4 = true then (kingpinlaw08_LeagueTruth.l1 k4 t585 x7_2 t594 t600 t606 t610 true (wrap64 (x16_4 + 1)) a0_0 l0_1) else (if 0 ≤ (rd t606 x16_4) then (if (rd t606 x16_4) < (t585.length : Int) then (if 0 ≤ x7_2 then (if x7_2 < (t585.length : Int) then (kingpinlaw08_LeagueTruth.l1 k4 t585 x7_2 t594 t600 t606 t610 (decide ((rd t585 (rd t606 x16_4)) > (rd t585 x7_2))) (wrap64 (x16_4 + 1)) a0_0 l0_1) else (none)) else (none)) else (none)) else (none))) else (some false)) = some r := H
               have A54 := Aside0.mk A540
               clear A540
               by_cases c55 : t612 = true
               ·
                subst c55
                have H1 : (if x15_4 = true then (kingpinlaw08_LeagueTruth.l1 k4 t585 x7_2 t594 t600 t606 t610 true (wrap64 (x16_4 + 1)) a0_0 l0_1) else (if 0 ≤ (rd t606 x16_4) then (if (rd t606 x16_4) < (t585.length : Int) then (if 0 ≤ x7_2 then (if x7_2 < (t585.length : Int) then (kingpinlaw08_LeagueTruth.l1 k4 t585 x7_2 t594 t600 t606 t610 (decide ((rd t585 (rd t606 x16_4)) > (rd t585 x7_2))) (wrap64 (x16_4 + 1)) a0_0 l0_1) else (none)) else (none)) else (none)) else (none))) = some r := by rw [if_pos rfl] at H; exact H
                clear H
                have H := H1
                clear H1
                by_cases c56 : x15_4 = true
                ·
                 subst c56
                 have H1 : (kingpinlaw08_LeagueTruth.l1 k4 t585 x7_2 t594 t600 t606 t610 true (wrap64 (x16_4 + 1)) a0_0 l0_1) = some r := by rw [if_pos rfl] at H; exact H
                 clear H
                 have H := H1
                 clear H1
                 have H' := Aside0.mk H
                 clear H
                 obtain ⟨Ao57, co57, eo57⟩ := Kd.R_slice HO_12.out
                 subst eo57
                 try go_wp2
                 have n0_ := Aside0.mk (Kd.R_drew HO_5.out)
                 have n1_ := Aside0.mk (Kd.R_drew HO_12.out)
                 have n2_ := Aside0.mk (blk_drew BK575.out)
                 have n3_ := Aside0.mk (below_drew1 HB.out)
                 clear HO_5
                 clear HO_12
                 clear BK575
                 clear HB
                 have HO_5 := n0_
                 have HO_12 := n1_
                 have BK575 := n2_
                 have HB := n3_
                 clear n0_ n1_ n2_ n3_
                 have p611 : 0 ≤ (x16_4 : Int) := of_decide_eq_true (by first | (with_reducible assumption) | assumption)
                 have q611 : x16_4 < (t606.length : Int) := of_decide_eq_true (by first | (with_reducible assumption) | assumption)
                 obtain ⟨ad611, e611, hx611_0⟩ := Kd.at_int (Kd.R_reads' HO_12.out).2.2 x16_4 p611 q611
                 cases e611
                 replace p611 := eq_true p611
                 replace q611 := eq_true q611
                 refine start_ (n := 9) (S := fun w' => w'.cell? ⟨gb575, 0, none⟩ = some (.int .i64 a0_0) ∧ w'.cell? ⟨gb575, 1, none⟩ = some (.slice A0_1 l0_1.length c0_1) ∧ w'.cell? (ad611.add (x16_4).toNat) = some (.int .i64 (rd t606 x16_4))) (ds := []) #[false, false, false, false, false, false, false, false, false] (by kernel_rfl) rfl rfl ⟨(blk_cell BK575.out 0).trans rfl, (blk_cell BK575.out 1).trans rfl, hx611_0⟩ (fun hHeld => ?_); refine with_tabW kingpinlaw08_LeagueTruth.tab18 kingpinlaw08_LeagueTruth.bits18 (fun HT_ HW_ => ?_)
                 generalize wr.drew = w58 at HO_5 HO_12 BK575 HB hx611_0 hHeld ⊢
                 refine pure_ (i := 0) (N := some 102) (v := ?_) (a' := ?_) #[true, false, false, false, false, false, false, false, false] rfl rfl (any_of HT_.out (by kernel_rfl)) (fun _ _ _ h => h) (Or.inl ⟨by rfl, ?_⟩) ?_ ?_
                 rotate_left
                 ·
                  intro w'
                  go_simp
                  with_reducible rfl
                 rotate_left
                 ·
                  simp only [Act.put, List.setIfInBounds_toArray, List.set_cons_zero, List.set_cons_succ, i64_w, i32_w]
                  rfl
                 refine pure_ (i := 1) (N := some 103) (v := ?_) (a' := ?_) #[true, true, false, false, false, false, false, false, false] rfl rfl (any_of HT_.out (by kernel_rfl)) (fun _ _ _ h => h) (Or.inl ⟨by rfl, ?_⟩) ?_ ?_
                 rotate_left
                 ·
                  intro w'
                  go_simp
                  with_reducible rfl
                 rotate_left
                 ·
                  simp only [Act.put, List.setIfInBounds_toArray, List.set_cons_zero, List.set_cons_succ, i64_w, i32_w]
                  rfl
                 refine pure_ (i := 2) (N := some 104) (v := ?_) (a' := ?_) #[true, true, true, false, false, false, false, false, false] rfl rfl (any_of HT_.out (by kernel_rfl)) (fun _ _ _ h => h) (Or.inl ⟨by rfl, ?_⟩) ?_ ?_
                 rotate_left
                 ·
                  intro w'
                  go_simp
                  with_reducible rfl
                 rotate_left
                 ·
                  simp only [Act.put, List.setIfInBounds_toArray, List.set_cons_zero, List.set_cons_succ, i64_w, i32_w]
                  rfl
                 refine pure_ (i := 4) (N := some 106) (v := ?_) (a' := ?_) #[true, true, true, false, true, false, false, false, false] rfl rfl (any_of HT_.out (by kernel_rfl)) (fun _ _ _ h => h) (Or.inl ⟨by rfl, ?_⟩) ?_ ?_
                 rotate_left
                 ·
                  intro w'
                  go_simp
                  with_reducible rfl
                 rotate_left
                 ·
                  simp only [Act.put, List.setIfInBounds_toArray, List.set_cons_zero, List.set_cons_succ, i64_w, i32_w]
                  rfl
                 refine take_ (i := 3) (N := some 105) (v := ?_) (a' := ?_) #[true, true, true, true, true, false, false, false, false] rfl rfl (take_ofW HT_.out HW_.out (by kernel_rfl)) (fun _ _ _ h => h) (Or.inl ⟨by rfl, ?_⟩) hHeld ?_ ?_
                 rotate_left
                 ·
                  rintro w' ⟨s0, s1, s2⟩
                  go_simp
                  with_reducible rfl
                 rotate_left
                 ·
                  simp only [Act.put, List.setIfInBounds_toArray, List.set_cons_zero, List.set_cons_succ, i64_w, i32_w]
                  rfl
                 refine take_ (i := 5) (N := some 107) (v := ?_) (a' := ?_) #[true, true, true, true, true, true, false, false, false] rfl rfl (take_ofW HT_.out HW_.out (by kernel_rfl)) (fun _ _ _ h => h) (Or.inl ⟨by rfl, ?_⟩) hHeld ?_ ?_
                 rotate_left
                 ·
                  rintro w' ⟨s0, s1, s2⟩
                  go_simp
                  with_reducible rfl
                 rotate_left
                 ·
                  simp only [Act.put, List.setIfInBounds_toArray, List.set_cons_zero, List.set_cons_succ, i64_w, i32_w]
                  rfl
                 refine pure_ (i := 6) (N := some 108) (v := ?_) (a' := ?_) #[true, true, true, true, true, true, true, false, false] rfl rfl (any_of HT_.out (by kernel_rfl)) (fun _ _ _ h => h) (Or.inl ⟨by rfl, ?_⟩) ?_ ?_
                 rotate_left
                 ·
                  intro w'
                  go_simp
                  with_reducible rfl
                 rotate_left
                 ·
                  simp only [Act.put, List.setIfInBounds_toArray, List.set_cons_zero, List.set_cons_succ, i64_w, i32_w]
                  rfl
                 refine one_ (i := 7) (N := some 109) #[true, true, true, true, true, true, true, true, false] rfl rfl (one_of HT_.out (by kernel_rfl)) (by decide) (fun K hK => ?_)
                 refine goes_ Try.func46 (by kernel_rfl) rfl #[.int .i64 (rd t606 x16_4), .int .i64 0, .int .i64 (wrap64 (a0_0 - 1))] (by rfl) rfl rfl (by (try simp only [List.map_toArray, List.map_cons, List.map_nil]); first | done | rfl | (simp only [List.length_drop, List.length_take]; rfl)) ?_
                 with_reducible refine (kingpinref08_In.calls (rd t606 x16_4) 0 (wrap64 (a0_0 - 1)) true _ A54.out).mono ?_
                 rintro e w' ⟨rfl, ⟨nd, rfl⟩⟩
                 refine ⟨_, rfl, ?_⟩
                 refine hK.out _ _ ⟨(blk_cell BK575.out 0).trans rfl, (blk_cell BK575.out 1).trans rfl, hHeld.2.2⟩ (fun hHeld => ?_)
                 clear hK K
                 refine norm_ (a' := ?_) ?_ ?_
                 rotate_left
                 ·
                  show Act.put _ (some 109) _ = _
                  simp only [Act.put, List.setIfInBounds_toArray, List.set_cons_zero, List.set_cons_succ, i64_w, i32_w]
                  rfl
                 refine pure_ (i := 8) (N := some 110) (v := ?_) (a' := ?_) #[true, true, true, true, true, true, true, true, true] rfl rfl (any_of HT_.out (by kernel_rfl)) (fun _ _ _ h => h) (Or.inl ⟨by rfl, ?_⟩) ?_ ?_
                 rotate_left
                 ·
                  intro w'
                  go_simp
                  with_reducible rfl
                 rotate_left
                 ·
                  simp only [Act.put, List.setIfInBounds_toArray, List.set_cons_zero, List.set_cons_succ, i64_w, i32_w]
                  rfl
                 refine done_ (done_of HT_.out (by kernel_rfl)) ?_
                 try go_wp2
                 (try (rw [drewN_self w58]; generalize hq_ : World.drewN w58 _ = w58; have n0_ : Aside0 (Kd.R (Kd.int .i64) 3 w58 w.heap.size (fun k_ => some k_ ≠ (.slice Ao51 t585.length co51 : Value).ownBlock) (.slice (some ad611) t606.length co57) t606) := ⟨by rw [← hq_]; exact (by (with_reducible repeat (first | apply Kd.R_alloc | apply Kd.R_drewN | apply Kd.R_drew)); exact HO_12.out)⟩; have n1_ : Aside0 (Kd.R (Kd.int .i64) 3 w58 w.heap.size (fun k_ => some k_ ≠ (.slice (some ad611) t606.length co57 : Value).ownBlock) (.slice Ao51 t585.length co51) t585) := ⟨by rw [← hq_]; exact (by (with_reducible repeat (first | apply Kd.R_alloc | apply Kd.R_drewN | apply Kd.R_drew)); exact HO_5.out)⟩; have n2_ : Aside0 (w58.heap[gb575]? = some (.cells #[.int .i64 a0_0, .slice A0_1 l0_1.length c0_1] 24 (0, 0))) := ⟨by rw [← hq_]; exact (by (with_reducible repeat (first | refine blk_drewN ?_ _ | refine blk_drew ?_ | refine blk_alloc ?_ _)); exact BK575.out)⟩; have n3_ : Aside0 (Below w.heap.size w w58) := ⟨by rw [← hq_]; exact (by repeat (first | (with_reducible first | exact HB.out | apply below_alloc | apply pw_below_drewN | apply below_drew1 | refine below_set ?_ GE575.out) | exact HB.out))⟩; clear HO_12 HO_5 BK575 HB hq_; have HO_12 := n0_; have HO_5 := n1_; have BK575 := n2_; have HB := n3_; clear n0_ n1_ n2_ n3_))
                 have n0_ := Aside0.mk (Kd.R_drew HO_5.out)
                 have n1_ := Aside0.mk (Kd.R_drew HO_12.out)
                 have n2_ := Aside0.mk (blk_drew BK575.out)
                 have n3_ := Aside0.mk (below_drew1 HB.out)
                 clear HO_5
                 clear HO_12
                 clear BK575
                 clear HB
                 have HO_5 := n0_
                 have HO_12 := n1_
                 have BK575 := n2_
                 have HB := n3_
                 clear n0_ n1_ n2_ n3_
                 refine start_ (n := 16) (S := fun w' => True) (ds := []) #[false, false, false, false, false, false, false, false, false, false, false, false, false, false, false, false] (by kernel_rfl) rfl rfl trivial (fun hHeld => ?_); refine with_tabW kingpinlaw08_LeagueTruth.tab20 kingpinlaw08_LeagueTruth.bits20 (fun HT_ HW_ => ?_)
                 generalize w58.drew = w59 at HO_5 HO_12 BK575 HB hHeld ⊢
                 refine pure_ (i := 0) (N := some 111) (v := ?_) (a' := ?_) #[true, false, false, false, false, false, false, false, false, false, false, false, false, false, false, false] rfl rfl (any_of HT_.out (by kernel_rfl)) (fun _ _ _ h => h) (Or.inl ⟨by rfl, ?_⟩) ?_ ?_
                 rotate_left
                 ·
                  intro w'
                  go_simp
                  with_reducible rfl
                 rotate_left
                 ·
                  simp only [Act.put, List.setIfInBounds_toArray, List.set_cons_zero, List.set_cons_succ, i64_w, i32_w]
                  rfl
                 refine pure_ (i := 1) (N := some 112) (v := ?_) (a' := ?_) #[true, true, false, false, false, false, false, false, false, false, false, false, false, false, false, false] rfl rfl (any_of HT_.out (by kernel_rfl)) (fun _ _ _ h => h) (Or.inl ⟨by rfl, ?_⟩) ?_ ?_
                 rotate_left
                 ·
                  intro w'
                  go_simp
                  with_reducible rfl
                 rotate_left
                 ·
                  simp only [Act.put, List.setIfInBounds_toArray, List.set_cons_zero, List.set_cons_succ, i64_w, i32_w]
                  rfl
                 refine pure_ (i := 2) (N := some 113) (v := undef) (a' := ?_) #[true, true, true, false, false, false, false, false, false, false, false, false, false, false, false, false] rfl rfl (any_of HT_.out (by kernel_rfl)) (fun _ _ _ h => h) (Or.inr ⟨by rfl, rfl⟩) ?_ ?_
                 rotate_left
                 ·
                  simp only [Act.put, List.setIfInBounds_toArray, List.set_cons_zero, List.set_cons_succ, i64_w, i32_w]
                  rfl
                 refine pure_ (i := 3) (N := some 114) (v := undef) (a' := ?_) #[true, true, true, true, false, false, false, false, false, false, false, false, false, false, false, false] rfl rfl (any_of HT_.out (by kernel_rfl)) (fun _ _ _ h => h) (Or.inr ⟨by rfl, rfl⟩) ?_ ?_
                 rotate_left
                 ·
                  simp only [Act.put, List.setIfInBounds_toArray, List.set_cons_zero, List.set_cons_succ, i64_w, i32_w]
                  rfl
                 refine pure_ (i := 4) (N := some 115) (v := undef) (a' := ?_) #[true, true, true, true, true, false, false, false, false, false, false, false, false, false, false, false] rfl rfl (any_of HT_.out (by kernel_rfl)) (fun _ _ _ h => h) (Or.inr ⟨by rfl, rfl⟩) ?_ ?_
                 rotate_left
                 ·
                  simp only [Act.put, List.setIfInBounds_toArray, List.set_cons_zero, List.set_cons_succ, i64_w, i32_w]
                  rfl
                 refine pure_ (i := 5) (N := some 116) (v := undef) (a' := ?_) #[true, true, true, true, true, true, false, false, false, false, false, false, false, false, false, false] rfl rfl (any_of HT_.out (by kernel_rfl)) (fun _ _ _ h => h) (Or.inr ⟨by rfl, rfl⟩) ?_ ?_
                 rotate_left
                 ·
                  simp only [Act.put, List.setIfInBounds_toArray, List.set_cons_zero, List.set_cons_succ, i64_w, i32_w]
                  rfl
                 refine pure_ (i := 6) (N := some 117) (v := undef) (a' := ?_) #[true, true, true, true, true, true, true, false, false, false, false, false, false, false, false, false] rfl rfl (any_of HT_.out (by kernel_rfl)) (fun _ _ _ h => h) (Or.inr ⟨by rfl, rfl⟩) ?_ ?_
                 rotate_left
                 ·
                  simp only [Act.put, List.setIfInBounds_toArray, List.set_cons_zero, List.set_cons_succ, i64_w, i32_w]
                  rfl
                 refine pure_ (i := 7) (N := some 118) (v := undef) (a' := ?_) #[true, true, true, true, true, true, true, true, false, false, false, false, false, false, false, false] rfl rfl (any_of HT_.out (by kernel_rfl)) (fun _ _ _ h => h) (Or.inr ⟨by rfl, rfl⟩) ?_ ?_
                 rotate_left
                 ·
                  simp only [Act.put, List.setIfInBounds_toArray, List.set_cons_zero, List.set_cons_succ, i64_w, i32_w]
                  rfl
                 refine pure_ (i := 8) (N := some 119) (v := undef) (a' := ?_) #[true, true, true, true, true, true, true, true, true, false, false, false, false, false, false, false] rfl rfl (any_of HT_.out (by kernel_rfl)) (fun _ _ _ h => h) (Or.inr ⟨by rfl, rfl⟩) ?_ ?_
                 rotate_left
                 ·
                  simp only [Act.put, List.setIfInBounds_toArray, List.set_cons_zero, List.set_cons_succ, i64_w, i32_w]
                  rfl
                 refine pure_ (i := 9) (N := some 120) (v := undef) (a' := ?_) #[true, true, true, true, true, true, true, true, true, true, false, false, false, false, false, false] rfl rfl (any_of HT_.out (by kernel_rfl)) (fun _ _ _ h => h) (Or.inr ⟨by rfl, rfl⟩) ?_ ?_
                 rotate_left
                 ·
                  simp only [Act.put, List.setIfInBounds_toArray, List.set_cons_zero, List.set_cons_succ, i64_w, i32_w]
                  rfl
                 refine pure_ (i := 10) (N := some 121) (v := undef) (a' := ?_) #[true, true, true, true, true, true, true, true, true, true, true, false, false, false, false, false] rfl rfl (any_of HT_.out (by kernel_rfl)) (fun _ _ _ h => h) (Or.inr ⟨by rfl, rfl⟩) ?_ ?_
                 rotate_left
                 ·
                  simp only [Act.put, List.setIfInBounds_toArray, List.set_cons_zero, List.set_cons_succ, i64_w, i32_w]
                  rfl
                 refine pure_ (i := 11) (N := some 122) (v := undef) (a' := ?_) #[true, true, true, true, true, true, true, true, true, true, true, true, false, false, false, false] rfl rfl (any_of HT_.out (by kernel_rfl)) (fun _ _ _ h => h) (Or.inr ⟨by rfl, rfl⟩) ?_ ?_
                 rotate_left
                 ·
                  simp only [Act.put, List.setIfInBounds_toArray, List.set_cons_zero, List.set_cons_succ, i64_w, i32_w]
                  rfl
                 refine pure_ (i := 12) (N := some 123) (v := undef) (a' := ?_) #[true, true, true, true, true, true, true, true, true, true, true, true, true, false, false, false] rfl rfl (any_of HT_.out (by kernel_rfl)) (fun _ _ _ h => h) (Or.inr ⟨by rfl, rfl⟩) ?_ ?_
                 rotate_left
                 ·
                  simp only [Act.put, List.setIfInBounds_toArray, List.set_cons_zero, List.set_cons_succ, i64_w, i32_w]
                  rfl
                 refine pure_ (i := 13) (N := some 124) (v := undef) (a' := ?_) #[true, true, true, true, true, true, true, true, true, true, true, true, true, true, false, false] rfl rfl (any_of HT_.out (by kernel_rfl)) (fun _ _ _ h => h) (Or.inr ⟨by rfl, rfl⟩) ?_ ?_
                 rotate_left
                 ·
                  simp only [Act.put, List.setIfInBounds_toArray, List.set_cons_zero, List.set_cons_succ, i64_w, i32_w]
                  rfl
                 refine pure_ (i := 14) (N := some 125) (v := ?_) (a' := ?_) #[true, true, true, true, true, true, true, true, true, true, true, true, true, true, true, false] rfl rfl (any_of HT_.out (by kernel_rfl)) (fun _ _ _ h => h) (Or.inl ⟨by rfl, ?_⟩) ?_ ?_
                 rotate_left
                 ·
                  intro w'
                  go_simp
                  with_reducible rfl
                 rotate_left
                 ·
                  simp only [Act.put, List.setIfInBounds_toArray, List.set_cons_zero, List.set_cons_succ, i64_w, i32_w]
                  rfl
                 refine pure_ (i := 15) (N := some 15) (v := ?_) (a' := ?_) #[true, true, true, true, true, true, true, true, true, true, true, true, true, true, true, true] rfl rfl (any_of HT_.out (by kernel_rfl)) (fun _ _ _ h => h) (Or.inl ⟨by rfl, ?_⟩) ?_ ?_
                 rotate_left
                 ·
                  intro w'
                  go_simp
                  with_reducible rfl
                 rotate_left
                 ·
                  simp only [Act.put, List.setIfInBounds_toArray, List.set_cons_zero, List.set_cons_succ, i64_w, i32_w]
                  rfl
                 refine done_ (done_of HT_.out (by kernel_rfl)) ?_
                 try go_wp2
                 go_roundg k4
                 case measure => have := HJ7.out; have := HK2.out; have := HJ28.out; have := HK4.out; omega
                 case rel => exact ⟨(true), (wrap64 (x16_4 + 1)), (by first | rfl | (simp; done) | (simp [*]; done)), (by first | rfl | (simp; done) | (simp [*]; done)), H', ⟨by have := HJ7.out; have := HK2.out; have := HJ28.out; have := HK4.out; omega⟩, ⟨by (with_reducible repeat (first | apply Kd.R_alloc | apply Kd.R_drewN | apply Kd.R_drew)); exact HO_5.out⟩, ⟨by (with_reducible repeat (first | apply Kd.R_alloc | apply Kd.R_drewN | apply Kd.R_drew)); exact HO_12.out⟩, ⟨by (with_reducible repeat (first | refine blk_drewN ?_ _ | refine blk_drew ?_ | refine blk_alloc ?_ _)); exact BK575.out⟩, ⟨by repeat (first | (with_reducible first | exact HB.out | apply below_alloc | apply pw_below_drewN | apply below_drew1 | refine below_set ?_ GE575.out) | exact HB.out)⟩⟩
                ·
                 replace c56 := Bool.eq_false_iff.mpr c56
                 subst c56
                 have H1 : (if 0 ≤ (rd t606 x16_4) then (if (rd t606 x16_4) < (t585.length : Int) then (if 0 ≤ x7_2 then (if x7_2 < (t585.length : Int) then (kingpinlaw08_LeagueTruth.l1 k4 t585 x7_2 t594 t600 t606 t610 (decide ((rd t585 (rd t606 x16_4)) > (rd t585 x7_2))) (wrap64 (x16_4 + 1)) a0_0 l0_1) else (none)) else (none)) else (none)) else (none)) = some r := by rw [if_neg (show ¬ (false = true) by decide)] at H; exact H
                 clear H
                 have H := H1
                 clear H1
                 by_cases c60 : 0 ≤ (rd t606 x16_4)
                 ·
                  rw [if_pos c60] at H
                  have c60b0 : decide (0 ≤ (rd t606 x16_4)) = true := decide_eq_true c60
                  clear c60
                  by_cases c61 : (rd t606 x16_4) < (t585.length : Int)
                  ·
                   rw [if_pos c61] at H
                   have c61b0 : decide ((rd t606 x16_4) < (t585.length : Int)) = true := decide_eq_true c61
                   clear c61
                   by_cases c62 : 0 ≤ x7_2
                   ·
                    rw [if_pos c62] at H
                    have c62b0 : decide (0 ≤ x7_2) = true := decide_eq_true c62
                    clear c62
                    by_cases c63 : x7_2 < (t585.length : Int)
                    ·
                     rw [if_pos c63] at H
                     have c63b0 : decide (x7_2 < (t585.length : Int)) = true := decide_eq_true c63
                     clear c63
                     have H' := Aside0.mk H
                     clear H
                     obtain ⟨Ao64, co64, eo64⟩ := Kd.R_slice HO_12.out
                     subst eo64
                     try go_wp2
                     have n0_ := Aside0.mk (Kd.R_drew HO_5.out)
                     have n1_ := Aside0.mk (Kd.R_drew HO_12.out)
                     have n2_ := Aside0.mk (blk_drew BK575.out)
                     have n3_ := Aside0.mk (below_drew1 HB.out)
                     clear HO_5
                     clear HO_12
                     clear BK575
                     clear HB
                     have HO_5 := n0_
                     have HO_12 := n1_
                     have BK575 := n2_
                     have HB := n3_
                     clear n0_ n1_ n2_ n3_
                     have p611 : 0 ≤ (x16_4 : Int) := of_decide_eq_true (by first | (with_reducible assumption) | assumption)
                     have q611 : x16_4 < (t606.length : Int) := of_decide_eq_true (by first | (with_reducible assumption) | assumption)
                     obtain ⟨ad611, e611, hx611_0⟩ := Kd.at_int (Kd.R_reads' HO_12.out).2.2 x16_4 p611 q611
                     cases e611
                     replace p611 := eq_true p611
                     replace q611 := eq_true q611
                     refine start_ (n := 9) (S := fun w' => w'.cell? ⟨gb575, 0, none⟩ = some (.int .i64 a0_0) ∧ w'.cell? ⟨gb575, 1, none⟩ = some (.slice A0_1 l0_1.length c0_1) ∧ w'.cell? (ad611.add (x16_4).toNat) = some (.int .i64 (rd t606 x16_4))) (ds := []) #[false, false, false, false, false, false, false, false, false] (by kernel_rfl) rfl rfl ⟨(blk_cell BK575.out 0).trans rfl, (blk_cell BK575.out 1).trans rfl, hx611_0⟩ (fun hHeld => ?_); refine with_tabW kingpinlaw08_LeagueTruth.tab18 kingpinlaw08_LeagueTruth.bits18 (fun HT_ HW_ => ?_)
                     generalize wr.drew = w65 at HO_5 HO_12 BK575 HB hx611_0 hHeld ⊢
                     refine pure_ (i := 0) (N := some 102) (v := ?_) (a' := ?_) #[true, false, false, false, false, false, false, false, false] rfl rfl (any_of HT_.out (by kernel_rfl)) (fun _ _ _ h => h) (Or.inl ⟨by rfl, ?_⟩) ?_ ?_
                     rotate_left
                     ·
                      intro w'
                      go_simp
                      with_reducible rfl
                     rotate_left
                     ·
                      simp only [Act.put, List.setIfInBounds_toArray, List.set_cons_zero, List.set_cons_succ, i64_w, i32_w]
                      rfl
                     refine pure_ (i := 1) (N := some 103) (v := ?_) (a' := ?_) #[true, true, false, false, false, false, false, false, false] rfl rfl (any_of HT_.out (by kernel_rfl)) (fun _ _ _ h => h) (Or.inl ⟨by rfl, ?_⟩) ?_ ?_
                     rotate_left
                     ·
                      intro w'
                      go_simp
                      with_reducible rfl
                     rotate_left
                     ·
                      simp only [Act.put, List.setIfInBounds_toArray, List.set_cons_zero, List.set_cons_succ, i64_w, i32_w]
                      rfl
                     refine pure_ (i := 2) (N := some 104) (v := ?_) (a' := ?_) #[true, true, true, false, false, false, false, false, false] rfl rfl (any_of HT_.out (by kernel_rfl)) (fun _ _ _ h => h) (Or.inl ⟨by rfl, ?_⟩) ?_ ?_
                     rotate_left
                     ·
                      intro w'
                      go_simp
                      with_reducible rfl
                     rotate_left
                     ·
                      simp only [Act.put, List.setIfInBounds_toArray, List.set_cons_zero, List.set_cons_succ, i64_w, i32_w]
                      rfl
                     refine pure_ (i := 4) (N := some 106) (v := ?_) (a' := ?_) #[true, true, true, false, true, false, false, false, false] rfl rfl (any_of HT_.out (by kernel_rfl)) (fun _ _ _ h => h) (Or.inl ⟨by rfl, ?_⟩) ?_ ?_
                     rotate_left
                     ·
                      intro w'
                      go_simp
                      with_reducible rfl
                     rotate_left
                     ·
                      simp only [Act.put, List.setIfInBounds_toArray, List.set_cons_zero, List.set_cons_succ, i64_w, i32_w]
                      rfl
                     refine take_ (i := 3) (N := some 105) (v := ?_) (a' := ?_) #[true, true, true, true, true, false, false, false, false] rfl rfl (take_ofW HT_.out HW_.out (by kernel_rfl)) (fun _ _ _ h => h) (Or.inl ⟨by rfl, ?_⟩) hHeld ?_ ?_
                     rotate_left
                     ·
                      rintro w' ⟨s0, s1, s2⟩
                      go_simp
                      with_reducible rfl
                     rotate_left
                     ·
                      simp only [Act.put, List.setIfInBounds_toArray, List.set_cons_zero, List.set_cons_succ, i64_w, i32_w]
                      rfl
                     refine take_ (i := 5) (N := some 107) (v := ?_) (a' := ?_) #[true, true, true, true, true, true, false, false, false] rfl rfl (take_ofW HT_.out HW_.out (by kernel_rfl)) (fun _ _ _ h => h) (Or.inl ⟨by rfl, ?_⟩) hHeld ?_ ?_
                     rotate_left
                     ·
                      rintro w' ⟨s0, s1, s2⟩
                      go_simp
                      with_reducible rfl
                     rotate_left
                     ·
                      simp only [Act.put, List.setIfInBounds_toArray, List.set_cons_zero, List.set_cons_succ, i64_w, i32_w]
                      rfl
                     refine pure_ (i := 6) (N := some 108) (v := ?_) (a' := ?_) #[true, true, true, true, true, true, true, false, false] rfl rfl (any_of HT_.out (by kernel_rfl)) (fun _ _ _ h => h) (Or.inl ⟨by rfl, ?_⟩) ?_ ?_
                     rotate_left
                     ·
                      intro w'
                      go_simp
                      with_reducible rfl
                     rotate_left
                     ·
                      simp only [Act.put, List.setIfInBounds_toArray, List.set_cons_zero, List.set_cons_succ, i64_w, i32_w]
                      rfl
                     refine one_ (i := 7) (N := some 109) #[true, true, true, true, true, true, true, true, false] rfl rfl (one_of HT_.out (by kernel_rfl)) (by decide) (fun K hK => ?_)
                     refine goes_ Try.func46 (by kernel_rfl) rfl #[.int .i64 (rd t606 x16_4), .int .i64 0, .int .i64 (wrap64 (a0_0 - 1))] (by rfl) rfl rfl (by (try simp only [List.map_toArray, List.map_cons, List.map_nil]); first | done | rfl | (simp only [List.length_drop, List.length_take]; rfl)) ?_
                     with_reducible refine (kingpinref08_In.calls (rd t606 x16_4) 0 (wrap64 (a0_0 - 1)) true _ A54.out).mono ?_
                     rintro e w' ⟨rfl, ⟨nd, rfl⟩⟩
                     refine ⟨_, rfl, ?_⟩
                     refine hK.out _ _ ⟨(blk_cell BK575.out 0).trans rfl, (blk_cell BK575.out 1).trans rfl, hHeld.2.2⟩ (fun hHeld => ?_)
                     clear hK K
                     refine norm_ (a' := ?_) ?_ ?_
                     rotate_left
                     ·
                      show Act.put _ (some 109) _ = _
                      simp only [Act.put, List.setIfInBounds_toArray, List.set_cons_zero, List.set_cons_succ, i64_w, i32_w]
                      rfl
                     refine pure_ (i := 8) (N := some 110) (v := ?_) (a' := ?_) #[true, true, true, true, true, true, true, true, true] rfl rfl (any_of HT_.out (by kernel_rfl)) (fun _ _ _ h => h) (Or.inl ⟨by rfl, ?_⟩) ?_ ?_
                     rotate_left
                     ·
                      intro w'
                      go_simp
                      with_reducible rfl
                     rotate_left
                     ·
                      simp only [Act.put, List.setIfInBounds_toArray, List.set_cons_zero, List.set_cons_succ, i64_w, i32_w]
                      rfl
                     refine done_ (done_of HT_.out (by kernel_rfl)) ?_
                     try go_wp2
                     (try (rw [drewN_self w65]; generalize hq_ : World.drewN w65 _ = w65; have n0_ : Aside0 (Kd.R (Kd.int .i64) 3 w65 w.heap.size (fun k_ => some k_ ≠ (.slice Ao51 t585.length co51 : Value).ownBlock) (.slice (some ad611) t606.length co64) t606) := ⟨by rw [← hq_]; exact (by (with_reducible repeat (first | apply Kd.R_alloc | apply Kd.R_drewN | apply Kd.R_drew)); exact HO_12.out)⟩; have n1_ : Aside0 (Kd.R (Kd.int .i64) 3 w65 w.heap.size (fun k_ => some k_ ≠ (.slice (some ad611) t606.length co64 : Value).ownBlock) (.slice Ao51 t585.length co51) t585) := ⟨by rw [← hq_]; exact (by (with_reducible repeat (first | apply Kd.R_alloc | apply Kd.R_drewN | apply Kd.R_drew)); exact HO_5.out)⟩; have n2_ : Aside0 (w65.heap[gb575]? = some (.cells #[.int .i64 a0_0, .slice A0_1 l0_1.length c0_1] 24 (0, 0))) := ⟨by rw [← hq_]; exact (by (with_reducible repeat (first | refine blk_drewN ?_ _ | refine blk_drew ?_ | refine blk_alloc ?_ _)); exact BK575.out)⟩; have n3_ : Aside0 (Below w.heap.size w w65) := ⟨by rw [← hq_]; exact (by repeat (first | (with_reducible first | exact HB.out | apply below_alloc | apply pw_below_drewN | apply below_drew1 | refine below_set ?_ GE575.out) | exact HB.out))⟩; clear HO_12 HO_5 BK575 HB hq_; have HO_12 := n0_; have HO_5 := n1_; have BK575 := n2_; have HB := n3_; clear n0_ n1_ n2_ n3_))
                     have n0_ := Aside0.mk (Kd.R_drew HO_5.out)
                     have n1_ := Aside0.mk (Kd.R_drew HO_12.out)
                     have n2_ := Aside0.mk (blk_drew BK575.out)
                     have n3_ := Aside0.mk (below_drew1 HB.out)
                     clear HO_5
                     clear HO_12
                     clear BK575
                     clear HB
                     have HO_5 := n0_
                     have HO_12 := n1_
                     have BK575 := n2_
                     have HB := n3_
                     clear n0_ n1_ n2_ n3_
                     have p613 : 0 ≤ (x16_4 : Int) := of_decide_eq_true (by first | (with_reducible assumption) | assumption)
                     have q613 : x16_4 < (t606.length : Int) := of_decide_eq_true (by first | (with_reducible assumption) | assumption)
                     obtain ⟨ad613, e613, hx613_0⟩ := Kd.at_int (Kd.R_reads' HO_12.out).2.2 x16_4 p613 q613
                     obtain rfl : ad611 = ad613 := (by injection e613)
                     replace p613 := eq_true p613
                     replace q613 := eq_true q613
                     have p614 : 0 ≤ ((rd t606 x16_4) : Int) := of_decide_eq_true (by first | (with_reducible assumption) | assumption)
                     have q614 : (rd t606 x16_4) < (t585.length : Int) := of_decide_eq_true (by first | (with_reducible assumption) | assumption)
                     obtain ⟨ad614, e614, hx614_0⟩ := Kd.at_int (Kd.R_reads' HO_5.out).2.2 (rd t606 x16_4) p614 q614
                     cases e614
                     replace p614 := eq_true p614
                     replace q614 := eq_true q614
                     have p615 : 0 ≤ (x7_2 : Int) := of_decide_eq_true (by first | (with_reducible assumption) | assumption)
                     have q615 : x7_2 < (t585.length : Int) := of_decide_eq_true (by first | (with_reducible assumption) | assumption)
                     obtain ⟨ad615, e615, hx615_0⟩ := Kd.at_int (Kd.R_reads' HO_5.out).2.2 x7_2 p615 q615
                     obtain rfl : ad614 = ad615 := (by injection e615)
                     replace p615 := eq_true p615
                     replace q615 := eq_true q615
                     refine start_ (n := 16) (S := fun w' => w'.cell? (ad611.add (x16_4).toNat) = some (.int .i64 (rd t606 x16_4)) ∧ w'.cell? (ad614.add ((rd t606 x16_4)).toNat) = some (.int .i64 (rd t585 (rd t606 x16_4))) ∧ w'.cell? (ad614.add (x7_2).toNat) = some (.int .i64 (rd t585 x7_2))) (ds := []) #[false, false, false, false, false, false, false, false, false, false, false, false, false, false, false, false] (by kernel_rfl) rfl rfl ⟨hx613_0, hx614_0, hx615_0⟩ (fun hHeld => ?_); refine with_tabW kingpinlaw08_LeagueTruth.tab20 kingpinlaw08_LeagueTruth.bits20 (fun HT_ HW_ => ?_)
                     generalize w65.drew = w66 at HO_5 HO_12 BK575 HB hx613_0 hx614_0 hx615_0 hHeld ⊢
                     refine pure_ (i := 0) (N := some 111) (v := ?_) (a' := ?_) #[true, false, false, false, false, false, false, false, false, false, false, false, false, false, false, false] rfl rfl (any_of HT_.out (by kernel_rfl)) (fun _ _ _ h => h) (Or.inl ⟨by rfl, ?_⟩) ?_ ?_
                     rotate_left
                     ·
                      intro w'
                      go_simp
                      with_reducible rfl
                     rotate_left
                     ·
                      simp only [Act.put, List.setIfInBounds_toArray, List.set_cons_zero, List.set_cons_succ, i64_w, i32_w]
                      rfl
                     refine pure_ (i := 1) (N := some 112) (v := ?_) (a' := ?_) #[true, true, false, false, false, false, false, false, false, false, false, false, false, false, false, false] rfl rfl (any_of HT_.out (by kernel_rfl)) (fun _ _ _ h => h) (Or.inl ⟨by rfl, ?_⟩) ?_ ?_
                     rotate_left
                     ·
                      intro w'
                      go_simp
                      with_reducible rfl
                     rotate_left
                     ·
                      simp only [Act.put, List.setIfInBounds_toArray, List.set_cons_zero, List.set_cons_succ, i64_w, i32_w]
                      rfl
                     refine pure_ (i := 2) (N := some 113) (v := ?_) (a' := ?_) #[true, true, true, false, false, false, false, false, false, false, false, false, false, false, false, false] rfl rfl (any_of HT_.out (by kernel_rfl)) (fun _ _ _ h => h) (Or.inl ⟨by rfl, ?_⟩) ?_ ?_
                     rotate_left
                     ·
                      intro w'
                      go_simp
                      with_reducible rfl
                     rotate_left
                     ·
                      simp only [Act.put, List.setIfInBounds_toArray, List.set_cons_zero, List.set_cons_succ, i64_w, i32_w]
                      rfl
                     refine pure_ (i := 3) (N := some 114) (v := ?_) (a' := ?_) #[true, true, true, true, false, false, false, false, false, false, false, false, false, false, false, false] rfl rfl (any_of HT_.out (by kernel_rfl)) (fun _ _ _ h => h) (Or.inl ⟨by rfl, ?_⟩) ?_ ?_
                     rotate_left
                     ·
                      intro w'
                      go_simp
                      with_reducible rfl
                     rotate_left
                     ·
                      simp only [Act.put, List.setIfInBounds_toArray, List.set_cons_zero, List.set_cons_succ, i64_w, i32_w]
                      rfl
                     refine pure_ (i := 4) (N := some 115) (v := ?_) (a' := ?_) #[true, true, true, true, true, false, false, false, false, false, false, false, false, false, false, false] rfl rfl (any_of HT_.out (by kernel_rfl)) (fun _ _ _ h => h) (Or.inl ⟨by rfl, ?_⟩) ?_ ?_
                     rotate_left
                     ·
                      intro w'
                      go_simp
                      with_reducible rfl
                     rotate_left
                     ·
                      simp only [Act.put, List.setIfInBounds_toArray, List.set_cons_zero, List.set_cons_succ, i64_w, i32_w]
                      rfl
                     refine pure_ (i := 5) (N := some 116) (v := ?_) (a' := ?_) #[true, true, true, true, true, true, false, false, false, false, false, false, false, false, false, false] rfl rfl (any_of HT_.out (by kernel_rfl)) (fun _ _ _ h => h) (Or.inl ⟨by rfl, ?_⟩) ?_ ?_
                     rotate_left
                     ·
                      intro w'
                      go_simp
                      with_reducible rfl
                     rotate_left
                     ·
                      simp only [Act.put, List.setIfInBounds_toArray, List.set_cons_zero, List.set_cons_succ, i64_w, i32_w]
                      rfl
                     refine pure_ (i := 9) (N := some 120) (v := ?_) (a' := ?_) #[true, true, true, true, true, true, false, false, false, true, false, false, false, false, false, false] rfl rfl (any_of HT_.out (by kernel_rfl)) (fun _ _ _ h => h) (Or.inl ⟨by rfl, ?_⟩) ?_ ?_
                     rotate_left
                     ·
                      intro w'
                      go_simp
                      with_reducible rfl
                     rotate_left
                     ·
                      simp only [Act.put, List.setIfInBounds_toArray, List.set_cons_zero, List.set_cons_succ, i64_w, i32_w]
                      rfl
                     refine pure_ (i := 10) (N := some 121) (v := ?_) (a' := ?_) #[true, true, true, true, true, true, false, false, false, true, true, false, false, false, false, false] rfl rfl (any_of HT_.out (by kernel_rfl)) (fun _ _ _ h => h) (Or.inl ⟨by rfl, ?_⟩) ?_ ?_
                     rotate_left
                     ·
                      intro w'
                      go_simp
                      with_reducible rfl
                     rotate_left
                     ·
                      simp only [Act.put, List.setIfInBounds_toArray, List.set_cons_zero, List.set_cons_succ, i64_w, i32_w]
                      rfl
                     refine pure_ (i := 11) (N := some 122) (v := ?_) (a' := ?_) #[true, true, true, true, true, true, false, false, false, true, true, true, false, false, false, false] rfl rfl (any_of HT_.out (by kernel_rfl)) (fun _ _ _ h => h) (Or.inl ⟨by rfl, ?_⟩) ?_ ?_
                     rotate_left
                     ·
                      intro w'
                      go_simp
                      with_reducible rfl
                     rotate_left
                     ·
                      simp only [Act.put, List.setIfInBounds_toArray, List.set_cons_zero, List.set_cons_succ, i64_w, i32_w]
                      rfl
                     refine take_ (i := 6) (N := some 117) (v := ?_) (a' := ?_) #[true, true, true, true, true, true, true, false, false, true, true, true, false, false, false, false] rfl rfl (take_ofW HT_.out HW_.out (by kernel_rfl)) (fun _ _ _ h => h) (Or.inl ⟨by rfl, ?_⟩) hHeld ?_ ?_
                     rotate_left
                     ·
                      rintro w' ⟨s0, s1, s2⟩
                      go_simp
                      with_reducible rfl
                     rotate_left
                     ·
                      simp only [Act.put, List.setIfInBounds_toArray, List.set_cons_zero, List.set_cons_succ, i64_w, i32_w]
                      rfl
                     refine pure_ (i := 7) (N := some 118) (v := ?_) (a' := ?_) #[true, true, true, true, true, true, true, true, false, true, true, true, false, false, false, false] rfl rfl (any_of HT_.out (by kernel_rfl)) (fun _ _ _ h => h) (Or.inl ⟨by rfl, ?_⟩) ?_ ?_
                     rotate_left
                     ·
                      intro w'
                      go_simp
                      with_reducible rfl
                     rotate_left
                     ·
                      simp only [Act.put, List.setIfInBounds_toArray, List.set_cons_zero, List.set_cons_succ, i64_w, i32_w]
                      rfl
                     refine take_ (i := 8) (N := some 119) (v := ?_) (a' := ?_) #[true, true, true, true, true, true, true, true, true, true, true, true, false, false, false, false] rfl rfl (take_ofW HT_.out HW_.out (by kernel_rfl)) (fun _ _ _ h => h) (Or.inl ⟨by rfl, ?_⟩) hHeld ?_ ?_
                     rotate_left
                     ·
                      rintro w' ⟨s0, s1, s2⟩
                      go_simp
                      with_reducible rfl
                     rotate_left
                     ·
                      simp only [Act.put, List.setIfInBounds_toArray, List.set_cons_zero, List.set_cons_succ, i64_w, i32_w]
                      rfl
                     refine take_ (i := 12) (N := some 123) (v := ?_) (a' := ?_) #[true, true, true, true, true, true, true, true, true, true, true, true, true, false, false, false] rfl rfl (take_ofW HT_.out HW_.out (by kernel_rfl)) (fun _ _ _ h => h) (Or.inl ⟨by rfl, ?_⟩) hHeld ?_ ?_
                     rotate_left
                     ·
                      rintro w' ⟨s0, s1, s2⟩
                      go_simp
                      with_reducible rfl
                     rotate_left
                     ·
                      simp only [Act.put, List.setIfInBounds_toArray, List.set_cons_zero, List.set_cons_succ, i64_w, i32_w]
                      rfl
                     refine pure_ (i := 13) (N := some 124) (v := ?_) (a' := ?_) #[true, true, true, true, true, true, true, true, true, true, true, true, true, true, false, false] rfl rfl (any_of HT_.out (by kernel_rfl)) (fun _ _ _ h => h) (Or.inl ⟨by rfl, ?_⟩) ?_ ?_
                     rotate_left
                     ·
                      intro w'
                      go_simp
                      with_reducible rfl
                     rotate_left
                     ·
                      simp only [Act.put, List.setIfInBounds_toArray, List.set_cons_zero, List.set_cons_succ, i64_w, i32_w]
                      rfl
                     refine pure_ (i := 14) (N := some 125) (v := ?_) (a' := ?_) #[true, true, true, true, true, true, true, true, true, true, true, true, true, true, true, false] rfl rfl (any_of HT_.out (by kernel_rfl)) (fun _ _ _ h => h) (Or.inl ⟨by rfl, ?_⟩) ?_ ?_
                     rotate_left
                     ·
                      intro w'
                      go_simp
                      with_reducible rfl
                     rotate_left
                     ·
                      simp only [Act.put, List.setIfInBounds_toArray, List.set_cons_zero, List.set_cons_succ, i64_w, i32_w]
                      rfl
                     refine pure_ (i := 15) (N := some 15) (v := ?_) (a' := ?_) #[true, true, true, true, true, true, true, true, true, true, true, true, true, true, true, true] rfl rfl (any_of HT_.out (by kernel_rfl)) (fun _ _ _ h => h) (Or.inl ⟨by rfl, ?_⟩) ?_ ?_
                     rotate_left
                     ·
                      intro w'
                      go_simp
                      with_reducible rfl
                     rotate_left
                     ·
                      simp only [Act.put, List.setIfInBounds_toArray, List.set_cons_zero, List.set_cons_succ, i64_w, i32_w]
                      rfl
                     refine done_ (done_of HT_.out (by kernel_rfl)) ?_
                     try go_wp2
                     go_roundg k4
                     case measure => have := HJ7.out; have := HK2.out; have := HJ28.out; have := HK4.out; omega
                     case rel => exact ⟨(decide ((rd t585 (rd t606 x16_4)) > (rd t585 x7_2))), (wrap64 (x16_4 + 1)), (by first | rfl | (simp; done) | (simp [*]; done)), (by first | rfl | (simp; done) | (simp [*]; done)), H', ⟨by have := HJ7.out; have := HK2.out; have := HJ28.out; have := HK4.out; omega⟩, ⟨by (with_reducible repeat (first | apply Kd.R_alloc | apply Kd.R_drewN | apply Kd.R_drew)); exact HO_5.out⟩, ⟨by (with_reducible repeat (first | apply Kd.R_alloc | apply Kd.R_drewN | apply Kd.R_drew)); exact HO_12.out⟩, ⟨by (with_reducible repeat (first | refine blk_drewN ?_ _ | refine blk_drew ?_ | refine blk_alloc ?_ _)); exact BK575.out⟩, ⟨by repeat (first | (with_reducible first | exact HB.out | apply below_alloc | apply pw_below_drewN | apply below_drew1 | refine below_set ?_ GE575.out) | exact HB.out)⟩⟩
                    ·
                     rw [if_neg c63] at H
                     exact absurd H (by simp)
                   ·
                    rw [if_neg c62] at H
                    exact absurd H (by simp)
                  ·
                   rw [if_neg c61] at H
                   exact absurd H (by simp)
                 ·
                  rw [if_neg c60] at H
                  exact absurd H (by simp)
               ·
                replace c55 := Bool.eq_false_iff.mpr c55
                subst c55
                have H1 : (some false) = some r := by rw [if_neg (show ¬ (false = true) by decide)] at H; exact H
                clear H
                have H := H1
                clear H1
                obtain rfl := Option.some.inj H
                obtain ⟨Ao67, co67, eo67⟩ := Kd.R_slice HO_12.out
                subst eo67
                try go_wp2
                have n0_ := Aside0.mk (Kd.R_drew HO_5.out)
                have n1_ := Aside0.mk (Kd.R_drew HO_12.out)
                have n2_ := Aside0.mk (blk_drew BK575.out)
                have n3_ := Aside0.mk (below_drew1 HB.out)
                clear HO_5
                clear HO_12
                clear BK575
                clear HB
                have HO_5 := n0_
                have HO_12 := n1_
                have BK575 := n2_
                have HB := n3_
                clear n0_ n1_ n2_ n3_
                have p611 : 0 ≤ (x16_4 : Int) := of_decide_eq_true (by first | (with_reducible assumption) | assumption)
                have q611 : x16_4 < (t606.length : Int) := of_decide_eq_true (by first | (with_reducible assumption) | assumption)
                obtain ⟨ad611, e611, hx611_0⟩ := Kd.at_int (Kd.R_reads' HO_12.out).2.2 x16_4 p611 q611
                cases e611
                replace p611 := eq_true p611
                replace q611 := eq_true q611
                refine start_ (n := 9) (S := fun w' => w'.cell? ⟨gb575, 0, none⟩ = some (.int .i64 a0_0) ∧ w'.cell? ⟨gb575, 1, none⟩ = some (.slice A0_1 l0_1.length c0_1) ∧ w'.cell? (ad611.add (x16_4).toNat) = some (.int .i64 (rd t606 x16_4))) (ds := []) #[false, false, false, false, false, false, false, false, false] (by kernel_rfl) rfl rfl ⟨(blk_cell BK575.out 0).trans rfl, (blk_cell BK575.out 1).trans rfl, hx611_0⟩ (fun hHeld => ?_); refine with_tabW kingpinlaw08_LeagueTruth.tab18 kingpinlaw08_LeagueTruth.bits18 (fun HT_ HW_ => ?_)
                generalize wr.drew = w68 at HO_5 HO_12 BK575 HB hx611_0 hHeld ⊢
                refine pure_ (i := 0) (N := some 102) (v := ?_) (a' := ?_) #[true, false, false, false, false, false, false, false, false] rfl rfl (any_of HT_.out (by kernel_rfl)) (fun _ _ _ h => h) (Or.inl ⟨by rfl, ?_⟩) ?_ ?_
                rotate_left
                ·
                 intro w'
                 go_simp
                 with_reducible rfl
                rotate_left
                ·
                 simp only [Act.put, List.setIfInBounds_toArray, List.set_cons_zero, List.set_cons_succ, i64_w, i32_w]
                 rfl
                refine pure_ (i := 1) (N := some 103) (v := ?_) (a' := ?_) #[true, true, false, false, false, false, false, false, false] rfl rfl (any_of HT_.out (by kernel_rfl)) (fun _ _ _ h => h) (Or.inl ⟨by rfl, ?_⟩) ?_ ?_
                rotate_left
                ·
                 intro w'
                 go_simp
                 with_reducible rfl
                rotate_left
                ·
                 simp only [Act.put, List.setIfInBounds_toArray, List.set_cons_zero, List.set_cons_succ, i64_w, i32_w]
                 rfl
                refine pure_ (i := 2) (N := some 104) (v := ?_) (a' := ?_) #[true, true, true, false, false, false, false, false, false] rfl rfl (any_of HT_.out (by kernel_rfl)) (fun _ _ _ h => h) (Or.inl ⟨by rfl, ?_⟩) ?_ ?_
                rotate_left
                ·
                 intro w'
                 go_simp
                 with_reducible rfl
                rotate_left
                ·
                 simp only [Act.put, List.setIfInBounds_toArray, List.set_cons_zero, List.set_cons_succ, i64_w, i32_w]
                 rfl
                refine pure_ (i := 4) (N := some 106) (v := ?_) (a' := ?_) #[true, true, true, false, true, false, false, false, false] rfl rfl (any_of HT_.out (by kernel_rfl)) (fun _ _ _ h => h) (Or.inl ⟨by rfl, ?_⟩) ?_ ?_
                rotate_left
                ·
                 intro w'
                 go_simp
                 with_reducible rfl
                rotate_left
                ·
                 simp only [Act.put, List.setIfInBounds_toArray, List.set_cons_zero, List.set_cons_succ, i64_w, i32_w]
                 rfl
                refine take_ (i := 3) (N := some 105) (v := ?_) (a' := ?_) #[true, true, true, true, true, false, false, false, false] rfl rfl (take_ofW HT_.out HW_.out (by kernel_rfl)) (fun _ _ _ h => h) (Or.inl ⟨by rfl, ?_⟩) hHeld ?_ ?_
                rotate_left
                ·
                 rintro w' ⟨s0, s1, s2⟩
                 go_simp
                 with_reducible rfl
                rotate_left
                ·
                 simp only [Act.put, List.setIfInBounds_toArray, List.set_cons_zero, List.set_cons_succ, i64_w, i32_w]
                 rfl
                refine take_ (i := 5) (N := some 107) (v := ?_) (a' := ?_) #[true, true, true, true, true, true, false, false, false] rfl rfl (take_ofW HT_.out HW_.out (by kernel_rfl)) (fun _ _ _ h => h) (Or.inl ⟨by rfl, ?_⟩) hHeld ?_ ?_
                rotate_left
                ·
                 rintro w' ⟨s0, s1, s2⟩
                 go_simp
                 with_reducible rfl
                rotate_left
                ·
                 simp only [Act.put, List.setIfInBounds_toArray, List.set_cons_zero, List.set_cons_succ, i64_w, i32_w]
                 rfl
                refine pure_ (i := 6) (N := some 108) (v := ?_) (a' := ?_) #[true, true, true, true, true, true, true, false, false] rfl rfl (any_of HT_.out (by kernel_rfl)) (fun _ _ _ h => h) (Or.inl ⟨by rfl, ?_⟩) ?_ ?_
                rotate_left
                ·
                 intro w'
                 go_simp
                 with_reducible rfl
                rotate_left
                ·
                 simp only [Act.put, List.setIfInBounds_toArray, List.set_cons_zero, List.set_cons_succ, i64_w, i32_w]
                 rfl
                refine one_ (i := 7) (N := some 109) #[true, true, true, true, true, true, true, true, false] rfl rfl (one_of HT_.out (by kernel_rfl)) (by decide) (fun K hK => ?_)
                refine goes_ Try.func46 (by kernel_rfl) rfl #[.int .i64 (rd t606 x16_4), .int .i64 0, .int .i64 (wrap64 (a0_0 - 1))] (by rfl) rfl rfl (by (try simp only [List.map_toArray, List.map_cons, List.map_nil]); first | done | rfl | (simp only [List.length_drop, List.length_take]; rfl)) ?_
                with_reducible refine (kingpinref08_In.calls (rd t606 x16_4) 0 (wrap64 (a0_0 - 1)) false _ A54.out).mono ?_
                rintro e w' ⟨rfl, ⟨nd, rfl⟩⟩
                refine ⟨_, rfl, ?_⟩
                refine hK.out _ _ ⟨(blk_cell BK575.out 0).trans rfl, (blk_cell BK575.out 1).trans rfl, hHeld.2.2⟩ (fun hHeld => ?_)
                clear hK K
                refine norm_ (a' := ?_) ?_ ?_
                rotate_left
                ·
                 show Act.put _ (some 109) _ = _
                 simp only [Act.put, List.setIfInBounds_toArray, List.set_cons_zero, List.set_cons_succ, i64_w, i32_w]
                 rfl
                refine pure_ (i := 8) (N := some 110) (v := ?_) (a' := ?_) #[true, true, true, true, true, true, true, true, true] rfl rfl (any_of HT_.out (by kernel_rfl)) (fun _ _ _ h => h) (Or.inl ⟨by rfl, ?_⟩) ?_ ?_
                rotate_left
                ·
                 intro w'
                 go_simp
                 with_reducible rfl
                rotate_left
                ·
                 simp only [Act.put, List.setIfInBounds_toArray, List.set_cons_zero, List.set_cons_succ, i64_w, i32_w]
                 rfl
                refine done_ (done_of HT_.out (by kernel_rfl)) ?_
                try go_wp2
                go_ret
                exact ⟨by first | rfl | (simp [errW_none, errW_some] <;> rfl) | (simp [*, errW_none, errW_some] <;> rfl), by repeat (first | (with_reducible first | exact HB.out | apply below_alloc | apply pw_below_drewN | apply below_drew1 | refine below_set ?_ GE575.out) | exact HB.out)⟩
              ·
               rw [if_neg c53] at H
               exact absurd H (by simp)
             ·
              rw [if_neg c52] at H
              have c52b0 : decide (x16_4 < (t606.length : Int)) = false := decide_eq_false c52
              clear c52
              by_cases c69 : t610 = true
              ·
               subst c69
               have H1 : (if t594 = true then (if t600 = true then (kingpinlaw08_LeagueTruth.l0 k4 t585 (wrap64 (x7_2 + 1)) a0_0 l0_1) else (kingpinlaw08_LeagueTruth.l0 k4 t585 (wrap64 (x7_2 + 1)) a0_0 l0_1)) else (some false)) = some r := by rw [if_pos rfl] at H; exact H
               clear H
               have H := H1
               clear H1
               by_cases c70 : t594 = true
               ·
                subst c70
                have H1 : (if t600 = true then (kingpinlaw08_LeagueTruth.l0 k4 t585 (wrap64 (x7_2 + 1)) a0_0 l0_1) else (kingpinlaw08_LeagueTruth.l0 k4 t585 (wrap64 (x7_2 + 1)) a0_0 l0_1)) = some r := by rw [if_pos rfl] at H; exact H
                clear H
                have H := H1
                clear H1
                by_cases c71 : t600 = true
                ·
                 subst c71
                 have H1 : (kingpinlaw08_LeagueTruth.l0 k4 t585 (wrap64 (x7_2 + 1)) a0_0 l0_1) = some r := by rw [if_pos rfl] at H; exact H
                 clear H
                 have H := H1
                 clear H1
                 have H' := Aside0.mk H
                 clear H
                 obtain ⟨Ao72, co72, eo72⟩ := Kd.R_slice HO_12.out
                 subst eo72
                 go_wp2
                 go_roundg k4
                 case measure => have := HJ7.out; have := HK2.out; have := HJ28.out; have := HK4.out; omega
                 case rel => exact ⟨(wrap64 (x7_2 + 1)), (by first | rfl | (simp; done) | (simp [*]; done)), H', ⟨by have := HJ7.out; have := HK2.out; have := HJ28.out; have := HK4.out; omega⟩, ⟨by (with_reducible repeat (first | apply Kd.R_alloc | apply Kd.R_drewN | apply Kd.R_drew)); exact Kd.R_mono HO_5.out (fun _ hk => trivial)⟩, ⟨by (with_reducible repeat (first | refine blk_drewN ?_ _ | refine blk_drew ?_ | refine blk_alloc ?_ _)); exact BK575.out⟩, ⟨by repeat (first | (with_reducible first | exact HB.out | apply below_alloc | apply pw_below_drewN | apply below_drew1 | refine below_set ?_ GE575.out) | exact HB.out)⟩⟩
                ·
                 replace c71 := Bool.eq_false_iff.mpr c71
                 subst c71
                 have H1 : (kingpinlaw08_LeagueTruth.l0 k4 t585 (wrap64 (x7_2 + 1)) a0_0 l0_1) = some r := by rw [if_neg (show ¬ (false = true) by decide)] at H; exact H
                 clear H
                 have H := H1
                 clear H1
                 have H' := Aside0.mk H
                 clear H
                 obtain ⟨Ao73, co73, eo73⟩ := Kd.R_slice HO_12.out
                 subst eo73
                 go_wp2
                 go_roundg k4
                 case measure => have := HJ7.out; have := HK2.out; have := HJ28.out; have := HK4.out; omega
                 case rel => exact ⟨(wrap64 (x7_2 + 1)), (by first | rfl | (simp; done) | (simp [*]; done)), H', ⟨by have := HJ7.out; have := HK2.out; have := HJ28.out; have := HK4.out; omega⟩, ⟨by (with_reducible repeat (first | apply Kd.R_alloc | apply Kd.R_drewN | apply Kd.R_drew)); exact Kd.R_mono HO_5.out (fun _ hk => trivial)⟩, ⟨by (with_reducible repeat (first | refine blk_drewN ?_ _ | refine blk_drew ?_ | refine blk_alloc ?_ _)); exact BK575.out⟩, ⟨by repeat (first | (with_reducible first | exact HB.out | apply below_alloc | apply pw_below_drewN | apply below_drew1 | refine below_set ?_ GE575.out) | exact HB.out)⟩⟩
               ·
                replace c70 := Bool.eq_false_iff.mpr c70
                subst c70
                have H1 : (some false) = some r := by rw [if_neg (show ¬ (false = true) by decide)] at H; exact H
                clear H
                have H := H1
                clear H1
                obtain rfl := Option.some.inj H
                obtain ⟨Ao74, co74, eo74⟩ := Kd.R_slice HO_12.out
                subst eo74
                go_wp2
                go_ret
                exact ⟨by first | rfl | (simp [errW_none, errW_some] <;> rfl) | (simp [*, errW_none, errW_some] <;> rfl), by repeat (first | (with_reducible first | exact HB.out | apply below_alloc | apply pw_below_drewN | apply below_drew1 | refine below_set ?_ GE575.out) | exact HB.out)⟩
              ·
               replace c69 := Bool.eq_false_iff.mpr c69
               subst c69
               have H1 : (if t600 = true then (some false) else (if t594 = true then (kingpinlaw08_LeagueTruth.l0 k4 t585 (wrap64 (x7_2 + 1)) a0_0 l0_1) else (if x15_4 = true then (kingpinlaw08_LeagueTruth.l0 k4 t585 (wrap64 (x7_2 + 1)) a0_0 l0_1) else (some false)))) = some r := by rw [if_neg (show ¬ (false = true) by decide)] at H; exact H
               clear H
               have H := H1
               clear H1
               by_cases c75 : t600 = true
               ·
                subst c75
                have H1 : (some false) = some r := by rw [if_pos rfl] at H; exact H
                clear H
                have H := H1
                clear H1
                obtain rfl := Option.some.inj H
                obtain ⟨Ao76, co76, eo76⟩ := Kd.R_slice HO_12.out
                subst eo76
                go_wp2
                go_ret
                exact ⟨by first | rfl | (simp [errW_none, errW_some] <;> rfl) | (simp [*, errW_none, errW_some] <;> rfl), by repeat (first | (with_reducible first | exact HB.out | apply below_alloc | apply pw_below_drewN | apply below_drew1 | refine below_set ?_ GE575.out) | exact HB.out)⟩
               ·
                replace c75 := Bool.eq_false_iff.mpr c75
                subst c75
                have H1 : (if t594 = true then (kingpinlaw08_LeagueTruth.l0 k4 t585 (wrap64 (x7_2 + 1)) a0_0 l0_1) else (if x15_4 = true then (kingpinlaw08_LeagueTruth.l0 k4 t585 (wrap64 (x7_2 + 1)) a0_0 l0_1) else (some false))) = some r := by rw [if_neg (show ¬ (false = true) by decide)] at H; exact H
                clear H
                have H := H1
                clear H1
                by_cases c77 : t594 = true
                ·
                 subst c77
                 have H1 : (kingpinlaw08_LeagueTruth.l0 k4 t585 (wrap64 (x7_2 + 1)) a0_0 l0_1) = some r := by rw [if_pos rfl] at H; exact H
                 clear H
                 have H := H1
                 clear H1
                 have H' := Aside0.mk H
                 clear H
                 obtain ⟨Ao78, co78, eo78⟩ := Kd.R_slice HO_12.out
                 subst eo78
                 go_wp2
                 go_roundg k4
                 case measure => have := HJ7.out; have := HK2.out; have := HJ28.out; have := HK4.out; omega
                 case rel => exact ⟨(wrap64 (x7_2 + 1)), (by first | rfl | (simp; done) | (simp [*]; done)), H', ⟨by have := HJ7.out; have := HK2.out; have := HJ28.out; have := HK4.out; omega⟩, ⟨by (with_reducible repeat (first | apply Kd.R_alloc | apply Kd.R_drewN | apply Kd.R_drew)); exact Kd.R_mono HO_5.out (fun _ hk => trivial)⟩, ⟨by (with_reducible repeat (first | refine blk_drewN ?_ _ | refine blk_drew ?_ | refine blk_alloc ?_ _)); exact BK575.out⟩, ⟨by repeat (first | (with_reducible first | exact HB.out | apply below_alloc | apply pw_below_drewN | apply below_drew1 | refine below_set ?_ GE575.out) | exact HB.out)⟩⟩
                ·
                 replace c77 := Bool.eq_false_iff.mpr c77
                 subst c77
                 have H1 : (if x15_4 = true then (kingpinlaw08_LeagueTruth.l0 k4 t585 (wrap64 (x7_2 + 1)) a0_0 l0_1) else (some false)) = some r := by rw [if_neg (show ¬ (false = true) by decide)] at H; exact H
                 clear H
                 have H := H1
                 clear H1
                 by_cases c79 : x15_4 = true
                 ·
                  subst c79
                  have H1 : (kingpinlaw08_LeagueTruth.l0 k4 t585 (wrap64 (x7_2 + 1)) a0_0 l0_1) = some r := by rw [if_pos rfl] at H; exact H
                  clear H
                  have H := H1
                  clear H1
                  have H' := Aside0.mk H
                  clear H
                  obtain ⟨Ao80, co80, eo80⟩ := Kd.R_slice HO_12.out
                  subst eo80
                  go_wp2
                  go_roundg k4
                  case measure => have := HJ7.out; have := HK2.out; have := HJ28.out; have := HK4.out; omega
                  case rel => exact ⟨(wrap64 (x7_2 + 1)), (by first | rfl | (simp; done) | (simp [*]; done)), H', ⟨by have := HJ7.out; have := HK2.out; have := HJ28.out; have := HK4.out; omega⟩, ⟨by (with_reducible repeat (first | apply Kd.R_alloc | apply Kd.R_drewN | apply Kd.R_drew)); exact Kd.R_mono HO_5.out (fun _ hk => trivial)⟩, ⟨by (with_reducible repeat (first | refine blk_drewN ?_ _ | refine blk_drew ?_ | refine blk_alloc ?_ _)); exact BK575.out⟩, ⟨by repeat (first | (with_reducible first | exact HB.out | apply below_alloc | apply pw_below_drewN | apply below_drew1 | refine below_set ?_ GE575.out) | exact HB.out)⟩⟩
                 ·
                  replace c79 := Bool.eq_false_iff.mpr c79
                  subst c79
                  have H1 : (some false) = some r := by rw [if_neg (show ¬ (false = true) by decide)] at H; exact H
                  clear H
                  have H := H1
                  clear H1
                  obtain rfl := Option.some.inj H
                  obtain ⟨Ao81, co81, eo81⟩ := Kd.R_slice HO_12.out
                  subst eo81
                  go_wp2
                  go_ret
                  exact ⟨by first | rfl | (simp [errW_none, errW_some] <;> rfl) | (simp [*, errW_none, errW_some] <;> rfl), by repeat (first | (with_reducible first | exact HB.out | apply below_alloc | apply pw_below_drewN | apply below_drew1 | refine below_set ?_ GE575.out) | exact HB.out)⟩
       ·
        rw [if_neg c22] at H
        have c22b0 : decide (x7_2 < a0_0) = false := decide_eq_false c22
        clear c22
        replace H := Option.bind_eq_some_iff.mp H
        obtain ⟨t589, A820, H⟩ := H
        replace H : (some t589) = some r := H
        have A82 := Aside0.mk A820
        clear A820
        obtain rfl := Option.some.inj H
        have hcz83_0 : wr.cell? ⟨gb575, 0, none⟩ = some (.int .i64 a0_0) := (blk_cell BK575.out 0).trans rfl
        have hcz83_1 : wr.cell? ⟨gb575, 1, none⟩ = some (.slice A0_1 l0_1.length c0_1) := (blk_cell BK575.out 1).trans rfl
        have hfz83_0 := blk_frozen BK575.out 0
        have hfz83_1 := blk_frozen BK575.out 1
        go_wp2_with (first | ((with_reducible refine gate_callee (f := 16) rfl ?_); refine goesL_ (some 146) rfl rfl Try.func16 (by kernel_rfl) rfl #[] rfl (by (try simp only [List.map_toArray, List.map_cons, List.map_nil]); first | done | rfl | (simp only [List.length_drop, List.length_take]; rfl)) ?_; (with_reducible refine (kingpinlaw08_awake.calls  t589 _ A82.out).mono ?_); rintro e w84 ⟨rfl, hb⟩; refine ⟨_, rfl, ?_⟩; have n0_ := Aside0.mk (Kd.R_below (by (with_reducible repeat (first | apply Kd.R_alloc | apply Kd.R_drewN | apply Kd.R_drew)); exact HO_5.out) hb); have n1_ := Aside0.mk (blk_below (g := gb575) (o := .cells #[.int .i64 a0_0, .slice A0_1 l0_1.length c0_1] 24 (0, 0)) (by (with_reducible repeat (first | refine blk_drewN ?_ _ | refine blk_drew ?_ | refine blk_alloc ?_ _)); exact BK575.out) hb); have n2_ := Aside0.mk (below_step (by repeat (first | (with_reducible first | exact HB.out | apply below_alloc | apply pw_below_drewN | apply below_drew1 | refine below_set ?_ GE575.out) | exact HB.out)) hb); clear HO_5; clear BK575; clear HB; have HO_5 := n0_; have BK575 := n1_; have HB := n2_; clear n0_ n1_ n2_; (try clear hb); (try clear hb2); (try clear hk); (try clear hi)))
        go_ret
        exact ⟨by first | rfl | (simp [errW_none, errW_some] <;> rfl) | (simp [*, errW_none, errW_some] <;> rfl), by repeat (first | (with_reducible first | exact HB.out | apply below_alloc | apply pw_below_drewN | apply below_drew1 | refine below_set ?_ GE575.out) | exact HB.out)⟩
 ·
  replace c4 := Bool.eq_false_iff.mpr c4
  subst c4
  have H1 : ((kingpinlaw08_awake.f).bind fun t577 => (some t577)) = some r := by rw [if_neg (show ¬ (false = true) by decide)] at H; exact H
  clear H
  have H := H1
  clear H1
  replace H := Option.bind_eq_some_iff.mp H
  obtain ⟨t577, A850, H⟩ := H
  replace H : (some t577) = some r := H
  have A85 := Aside0.mk A850
  clear A850
  obtain rfl := Option.some.inj H
  go_enter Try.func10, Try.ntmps10
  go_wp2_with (first | ((with_reducible refine gate_dst (N := 2) rfl ?_); (try (refine gate_guard (by rfl) ?_; dsimp only)); refine box_event ?hg (N := 2) ?hd (cs := #[.int .i64 a0_0, .slice A0_1 l0_1.length c0_1]) (t := 24) ?hr ?_; (case hd => rfl); (case hg => rfl); (case hr => first | (go_simp; done) | (go_simp; rfl)); intro gb575 hg w86 hbox hb; have n0_ := Aside0.mk (below_step (by repeat (first | (with_reducible first | exact HB.out | apply below_alloc | apply pw_below_drewN | apply below_drew1) | exact HB.out)) hb); have n1_ := Aside0.mk (hbox); have n2_ := Aside0.mk ((by rw [hg]; exact (below_size (by repeat (first | (with_reducible first | exact HB.out | apply below_alloc | apply pw_below_drewN | apply below_drew1) | exact HB.out))) : w.heap.size ≤ gb575)); have n3_ := Aside0.mk ((by rw [hg]; exact (below_size (by repeat (first | (with_reducible first | exact HB.out | apply below_alloc | apply pw_below_drewN | apply below_drew1) | exact HB.out))) : w.heap.size ≤ gb575)); clear HB; have HB := n0_; have BK575 := n1_; have GW575 := n2_; have GE575 := n3_; clear n0_ n1_ n2_ n3_; clear hb hbox hg; have hcz87_0 : w86.cell? ⟨gb575, 0, none⟩ = some (.int .i64 a0_0) := (blk_cell BK575.out 0).trans rfl; have hcz87_1 : w86.cell? ⟨gb575, 1, none⟩ = some (.slice A0_1 l0_1.length c0_1) := (blk_cell BK575.out 1).trans rfl; have hfz87_0 := blk_frozen BK575.out 0; have hfz87_1 := blk_frozen BK575.out 1) | ((with_reducible refine gate_callee (f := 34) rfl ?_); refine goesL_ (some 18) rfl rfl Try.func34 (by kernel_rfl) rfl #[.agg #[.int .i64 a0_0, .slice A0_1 l0_1.length c0_1]] rfl (by (try simp only [List.map_toArray, List.map_cons, List.map_nil]); first | done | rfl | (simp only [List.length_drop, List.length_take]; rfl)) ?_; (with_reducible refine (kingpinlaw08_ready.calls a0_0 _ _ l0_1 false _ ?side1 ?side2 A3.out).mono ?_); (case side1 => repeat (first | exact (Kd.C_below HR0_1.out HB.out) | (with_reducible refine Kd.C_alloc ?_ _) | (with_reducible refine Kd.C_drewN ?_ _) | (with_reducible refine Kd.C_drew ?_))); (case side2 => exact HC0_1.out); rintro e w88 ⟨rfl, hb⟩; refine ⟨_, rfl, ?_⟩; have n0_ := Aside0.mk (blk_below (g := gb575) (o := .cells #[.int .i64 a0_0, .slice A0_1 l0_1.length c0_1] 24 (0, 0)) (by (with_reducible repeat (first | refine blk_drewN ?_ _ | refine blk_drew ?_ | refine blk_alloc ?_ _)); exact BK575.out) hb); have n1_ := Aside0.mk (below_step (by repeat (first | (with_reducible first | exact HB.out | apply below_alloc | apply pw_below_drewN | apply below_drew1 | refine below_set ?_ GE575.out) | exact HB.out)) hb); clear BK575; clear HB; have BK575 := n0_; have HB := n1_; clear n0_ n1_; (try clear hb); (try clear hb2); (try clear hk); (try clear hi)) | ((with_reducible refine gate_callee (f := 16) rfl ?_); refine goesL_ (some 20) rfl rfl Try.func16 (by kernel_rfl) rfl #[] rfl (by (try simp only [List.map_toArray, List.map_cons, List.map_nil]); first | done | rfl | (simp only [List.length_drop, List.length_take]; rfl)) ?_; (with_reducible refine (kingpinlaw08_awake.calls  t577 _ A85.out).mono ?_); rintro e w89 ⟨rfl, hb⟩; refine ⟨_, rfl, ?_⟩; have n0_ := Aside0.mk (blk_below (g := gb575) (o := .cells #[.int .i64 a0_0, .slice A0_1 l0_1.length c0_1] 24 (0, 0)) (by (with_reducible repeat (first | refine blk_drewN ?_ _ | refine blk_drew ?_ | refine blk_alloc ?_ _)); exact BK575.out) hb); have n1_ := Aside0.mk (below_step (by repeat (first | (with_reducible first | exact HB.out | apply below_alloc | apply pw_below_drewN | apply below_drew1 | refine below_set ?_ GE575.out) | exact HB.out)) hb); clear BK575; clear HB; have BK575 := n0_; have HB := n1_; clear n0_ n1_; (try clear hb); (try clear hb2); (try clear hk); (try clear hi)))
  go_ret
  exact ⟨by first | rfl | (simp [errW_none, errW_some] <;> rfl) | (simp [*, errW_none, errW_some] <;> rfl), by repeat (first | (with_reducible first | exact HB.out | apply below_alloc | apply pw_below_drewN | apply below_drew1 | refine below_set ?_ GE575.out) | exact HB.out)⟩
end Go.Proofs.Ytmnamkcjldaoeaa.PAll
namespace Go.Proofs.Ytmnamkcjldaoeaa.PAll
open Go.RowKit Go.Proofs.YtmnamkcjldaoeaaW.PrintWords Go.Proofs.YtmnamkcjldaoeaaW.PrintLast Go.Proofs.YtmnamkcjldaoeaaW.PrintMore
set_option linter.unusedVariables false
set_option linter.unusedSimpArgs false
set_option linter.unusedSectionVars false
def moreB (p : List Int) (t : Int) (xs : List Int) : Bool := xs.any fun x => decide (rd p x > rd p t)
theorem Truth_l1 (n : Int) (l : List S70) (n2 : 2 ≤ n) (n6 : n ≤ 6) (p : List Int) (hp : p.length = n.toNat) (t : Nat) (ht : (t : Int) < n) (c s first : Bool) (xs : List Int) (hx : ∀ x ∈ xs, 0 ≤ x ∧ x < n) (hxl : xs.length ≤ 6)
  (h1 : first = true → c = true) (h2 : s = true → first = true) (R : Bool) (H : Ev (fun k => kingpinlaw08_LeagueTruth.l0 k p ((t + 1 : Nat) : Int) n l) R) :
  ∀ (d i : Nat) (acc : Bool), xs.length - i = d → i ≤ xs.length → (c = false → (acc || moreB p t (xs.drop i)) = true) → Ev (fun k => kingpinlaw08_LeagueTruth.l1 k p (t : Int) c s xs first acc (i : Int) n l) R := by
 intro d
 induction d with
 | zero =>
  intro i acc hd hi hm
  obtain rfl : i = xs.length := by omega
  rw [List.drop_length] at hm
  simp only [moreB, List.any_nil, Bool.or_false] at hm
  refine Ev.step (fun k => ?_) H
  simp only [kingpinlaw08_LeagueTruth.l1]
  rw [if_neg (by omega), wrapN t (by omega)]
  cases first with
  | true =>
   rw [if_pos rfl, if_pos (h1 rfl)]
   split <;> rfl
  | false =>
   have hs : s = false := by
    cases s with
    | false => rfl
    | true => exact absurd (h2 rfl) Bool.false_ne_true
   rw [if_neg Bool.false_ne_true, hs, if_neg Bool.false_ne_true]
   cases c with
   | true => rw [if_pos rfl]
   | false => rw [if_neg Bool.false_ne_true, if_pos (hm rfl)]
 | succ d ih =>
  intro i acc hd hi hm
  have hmem : rd xs (i : Int) ∈ xs := List.mem_of_mem_drop (i := i) (by rw [dropI xs i (by omega)]; exact List.mem_cons_self)
  obtain ⟨x0, xn⟩ := hx _ hmem
  rw [dropI xs i (by omega)] at hm
  have hIn : kingpinref08_In.f (rd xs (i : Int)) 0 (wrap64 (n - 1)) = some true := by
   rw [In_eq, IntWalk.wrap64_in (n - 1) ⟨by omega, by omega⟩, decide_eq_true x0, decide_eq_true (by omega)]
   rfl
  have ih2 := ih (i + 1) (acc || decide (rd p (rd xs (i : Int)) > rd p (t : Int))) (by omega) (by omega) (fun h => by
   have := hm h
   unfold moreB at this ⊢
   rw [List.any_cons] at this
   rw [Bool.or_assoc]
   exact this)
  refine Ev.step (fun k => ?_) ih2
  simp only [kingpinlaw08_LeagueTruth.l1]
  rw [if_pos (by omega), if_pos (by omega), hIn, Option.bind_some, if_pos rfl, wrapN i (by omega)]
  cases acc with
  | true => rw [if_pos rfl, Bool.true_or]
  | false => rw [if_neg Bool.false_ne_true, if_pos x0, if_pos (by omega), if_pos (by omega), if_pos (by omega), Bool.false_or]
theorem Truth_ev (a : Int) (l : List S70) (words : List Int) (hw : ∀ x ∈ words, 0 ≤ x ∧ x ≤ 65535) (hwl : words.length ≤ 9223372036854775807) : Ev (fun k => kingpinlaw08_LeagueTruth.f k a l words) true := by
 have hawk : Ev (fun k => (kingpinlaw08_awake.f).bind fun t => some t) true := Ev.bind awake_ev (Ev.now _)
 unfold kingpinlaw08_LeagueTruth.f
 refine Ev.bind (ready_ev a l) ?_
 cases hr : readyB a l with
 | false => exact hawk
 | true =>
  simp only [if_true]
  unfold readyB at hr
  simp only [Bool.and_eq_true, decide_eq_true_eq] at hr
  obtain ⟨h24, hc⟩ := hr
  obtain ⟨h20, n2, n6, hok⟩ := check_ok hc
  rw [List.length_map] at h20
  obtain ⟨os, ho, hol, hos⟩ := ended_ev a l words hw hwl (by omega)
  refine Ev.bind (League_ev a l (by omega)) (Ev.bind ho ?_)
  simp only [league_After.f, afterF_ok hc hol hos, Option.bind_some]
  have hpl := pts_len a (l.map toG) os
  have hfi := fun t => first_iff hc hol hos t
  have hrd := fun t => pts_rd hc hol hos t
  obtain ⟨p, hp⟩ : ∃ p, pts a (l.map toG) os = p := ⟨_, rfl⟩
  rw [hp] at hpl ⊢
  simp only [hp] at hfi hrd
  have main : ∀ (d t : Nat), a.toNat - t = d → t ≤ a.toNat → Ev (fun k => kingpinlaw08_LeagueTruth.l0 k p (t : Int) a l) true := by
   intro d
   induction d with
   | zero =>
    intro t hd ht
    refine Ev.step (fun k => ?_) hawk
    simp only [kingpinlaw08_LeagueTruth.l0]
    rw [if_neg (by omega)]
   | succ d ih =>
    intro t hd ht
    have htn : (t : Int) < a := by omega
    have ih2 := ih (t + 1) (by omega) (by omega)
    have hF := First_ev p (t : Int) (by omega) (by omega) (by omega)
    have hs2 := surely_ok hc (t : Int) (by omega) htn
    have hc2 : (canF a (l.map toG) (t : Int)).2 = 0 := by
     rcases can_first hc (t : Int) (by omega) htn with h | h
     ·
      exact h.2.1
     ·
      exact h.2.1
    have hfc : firstB p (t : Int) = true → (canF a (l.map toG) (t : Int)).1 = true := fun h => first_can hc (t : Int) (by omega) htn hol hos ((hfi _).1 h)
    have hsf : (surelyF a (l.map toG) (t : Int)).1 = true → firstB p (t : Int) = true := fun h => (hfi _).2 (surely_first hc (t : Int) (by omega) htn h hol hos)
    have hrc := reason_can hc (t : Int) (by omega) htn
    obtain ⟨⟨c, e1⟩, hcan⟩ : ∃ x, canF a (l.map toG) (t : Int) = x := ⟨_, rfl⟩
    obtain ⟨⟨s, e2⟩, hsur⟩ : ∃ x, surelyF a (l.map toG) (t : Int) = x := ⟨_, rfl⟩
    obtain ⟨⟨xs, e3⟩, hrea⟩ : ∃ x, reasonF a (l.map toG) (t : Int) = x := ⟨_, rfl⟩
    rw [hcan] at hfc hc2 hrc
    rw [hsur] at hsf hs2
    rw [hrea] at hrc
    dsimp only at hfc hc2 hrc hsf hs2
    subst hc2 hs2
    have hxs : (∀ x ∈ xs, 0 ≤ x ∧ x < a) ∧ xs.length ≤ 6 ∧ (c = true ∧ e3 = 7 ∨ c = false ∧ e3 = 0 ∧ moreB p (t : Int) xs = true) := by
     rcases hrc with ⟨hc1, he⟩ | ⟨hc1, he, hL, hT, hru⟩
     ·
      injection he with he1 he2
      subst he1 he2
      exact ⟨fun x hx => (by cases hx), (by simp), .inl ⟨hc1, rfl⟩⟩
     ·
      obtain ⟨g1, g2, g3, _⟩ := good_ok a.toNat t (by omega) (by omega) xs hL hT
      refine ⟨fun x hx => ⟨(g3 x hx).1, by have := (g3 x hx).2.1; omega⟩, g2, .inr ⟨hc1, he, ?_⟩⟩
      obtain ⟨u, hu, hlt⟩ := ruled_more hc (t : Int) (by omega) xs g1 (fun u hu => (g3 u hu).1) (by omega) hru os hol hos
      unfold moreB
      rw [List.any_eq_true]
      exact ⟨u, hu, by rw [hrd, hrd]; exact decide_eq_true hlt⟩
    obtain ⟨hx1, hx2, hx3⟩ := hxs
    have hl1 := Truth_l1 a l n2 n6 p hpl t htn c s (firstB p (t : Int)) xs hx1 hx2 hfc hsf true ih2 xs.length 0 false rfl (Nat.zero_le _) (fun h => by
     rw [List.drop_zero, Bool.false_or]
     rcases hx3 with h3 | h3
     ·
      rw [h3.1] at h
      cases h
     ·
      exact h3.2.2)
    have hj2 : Ev (fun k => kingpinlaw08_LeagueTruth.j2 k p (t : Int) c s xs false a l) true := by
     refine Ev.step (f := fun k => (kingpinref08_First.f k p (t : Int)).bind fun t610 => (kingpinlaw08_LeagueTruth.l1 k p (t : Int) c s xs t610 false 0 a l)) (fun k => ?_) (Ev.bind hF hl1)
     simp only [kingpinlaw08_LeagueTruth.j2]
     rw [if_neg Bool.false_ne_true]
    have hsc : s = true → c = true := fun h => hfc (hsf h)
    refine Ev.step (f := fun k => (kingpinlaw08_League.f k a l).bind fun bt590 => ((league_CanFirst.f bt590.1 bt590.2 (t : Int)).bind fun bt594 => ((kingpinlaw08_League.f k a l).bind fun bt596 => ((league_Surely.f bt596.1 bt596.2 (t : Int)).bind fun bt600 => ((kingpinlaw08_League.f k a l).bind fun bt602 => ((league_Reason.f bt602.1 bt602.2 (t : Int)).bind fun bt606 => (if bt594.2 = 0 then (if bt600.2 = 0 then (if bt600.1 = true then (if bt594.1 = true then (if (bt594.1 != (bt606.2 == 7)) = true then (kingpinlaw08_LeagueTruth.j2 k p (t : Int) bt594.1 bt600.1 bt606.1 true a l) else (kingpinlaw08_LeagueTruth.j2 k p (t : Int) bt594.1 bt600.1 bt606.1 false a l)) else (kingpinlaw08_LeagueTruth.j2 k p (t : Int) bt594.1 bt600.1 bt606.1 true a l)) else (if (bt594.1 != (bt606.2 == 7)) = true then (kingpinlaw08_LeagueTruth.j2 k p (t : Int) bt594.1 bt600.1 bt606.1 true a l) else (if bt594.1 = true then (kingpinlaw08_LeagueTruth.j2 k p (t : Int) bt594.1 bt600.1 bt606.1 false a l) else (kingpinlaw08_LeagueTruth.j2 k p (t : Int) bt594.1 bt600.1 bt606.1 (bt606.2 != 0) a l)))) else (kingpinlaw08_LeagueTruth.j2 k p (t : Int) bt594.1 bt600.1 bt606.1 true a l)) else (kingpinlaw08_LeagueTruth.j2 k p (t : Int) bt594.1 bt600.1 bt606.1 true a l)))))))) (fun k => ?_) ?_
    ·
     simp only [kingpinlaw08_LeagueTruth.l0]
     rw [if_pos htn]
    ·
     refine Ev.bind (League_ev a l (by omega)) ?_
     simp only [league_CanFirst.f, hcan, Option.bind_some]
     refine Ev.bind (League_ev a l (by omega)) ?_
     simp only [league_Surely.f, hsur, Option.bind_some]
     refine Ev.bind (League_ev a l (by omega)) ?_
     simp only [league_Reason.f, hrea, Option.bind_some, if_true]
     rcases hx3 with ⟨rfl, rfl⟩ | ⟨rfl, rfl, _⟩
     ·
      cases s <;> exact hj2
     ·
      cases s with
      | false => exact hj2
      | true => exact absurd (hsc rfl) Bool.false_ne_true
  refine Ev.step (f := fun k => kingpinlaw08_LeagueTruth.l0 k p 0 a l) (fun k => ?_) (main a.toNat 0 (by omega) (Nat.zero_le _))
  rw [if_pos trivial, show ((p.length : Int) != a) = false from bne_eq_false_iff_eq.2 (by omega)]
  simp only [kingpinlaw08_LeagueTruth.j0]
  rw [if_neg Bool.false_ne_true]
end Go.Proofs.Ytmnamkcjldaoeaa.PAll
