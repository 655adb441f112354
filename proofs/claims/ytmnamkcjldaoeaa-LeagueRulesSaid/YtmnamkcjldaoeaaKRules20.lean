/- Parts of the proof of leagueRules_holds, in order: L6 -/
import Derived.Test.YtmnamkcjldaoeaaKRules18
import Derived.Test.YtmnamkcjldaoeaaKRules19
namespace Go.Proofs.Ytmnamkcjldaoeaa.PAll
open Go.RowKit Go.Proofs.YtmnamkcjldaoeaaW.PrintWords Go.Proofs.YtmnamkcjldaoeaaW.PrintLast Go.Proofs.YtmnamkcjldaoeaaW.PrintMore
set_option linter.unusedVariables false
set_option linter.unusedSimpArgs false
set_option linter.unusedSectionVars false
theorem rankOf_len (n : Int) (l : List S85) (rules : List Int) : (rankOf n l rules).length = n.toNat := by
 unfold rankOf
 have : ∀ (gs : List (List Int)) (out : List Int) (r : Int), (outsOf gs out r).length = out.length := by
  intro gs
  induction gs with
  | nil => exact fun _ _ => rfl
  | cons g gs ih => exact fun out r => (ih _ _).trans (setAll_len g out r)
 rw [this, List.length_replicate]
theorem rankF_ok {n : Int} {l : List S85} {rules : List Int} (hc : checkF n l = 0) (h6 : rules.length ≤ 6) (hr : rules.all ruleB = true) : rankF n l rules = (rankOf n l rules, 0) := by
 unfold rankF
 rw [hc, if_neg (by decide), if_neg (by omega), if_pos hr]
theorem teams_drop (n : Int) (i : Nat) (h : (i : Int) < n) : (teamsL n).drop i = (i : Int) :: (teamsL n).drop (i + 1) := by
 have hl : (teamsL n).length = n.toNat := by simp [teamsL]
 rw [List.drop_eq_getElem_cons (by rw [hl]; omega)]
 congr 1
 simp [teamsL]
section
variable (n : Int) (l : List S70) (rules : List Int) (a b : List Int) (A B : Int → Int) (c : Int)
variable (hc : checkF n (l.map toG) = 0) (hrl : rules.length ≤ 1000) (hr : ∀ x ∈ rules, 1 ≤ x ∧ x ≤ 4) (hal : a.length = n.toNat) (hbl : b.length = n.toNat)
variable (hA : RankLaw n (l.map toG) rules A) (ha : ∀ t, 0 ≤ t → t < n → rd a t = A t) (hb : ∀ t, 0 ≤ t → t < n → rd b t = B t)
variable (hBc : ∀ t, 0 ≤ t → t < n → (((teamsL n).filter fun o => decide (B o < B t)).length : Int) = B t - 1)
variable (hAB : ∀ o t, 0 ≤ o → o < n → 0 ≤ t → t < n → A o < A t → B o < B t)
include hc hrl hr hal hbl hA ha hb hBc hAB
theorem rules_l2 (t o : Nat) (cnt : Int) (ht : (t : Int) < n) (ho : (o : Int) < n) (R : Bool) : ∀ (d i : Nat), rules.length - i = d → i ≤ rules.length →
  Ev (fun k => kingpinlaw08_LeagueRules.l1 k rules a b (t : Int) cnt ((o + 1 : Nat) : Int) n l) R → Ev (fun k => kingpinlaw08_LeagueRules.l2 k rules a b (t : Int) cnt (o : Int) (i : Int) n l) R := by
 obtain ⟨h20, n2, n6, hok⟩ := check_ok hc
 rw [List.length_map] at h20
 have hne : ∀ x ∈ l, x.f0 ≠ x.f1 := fun x hx => ((gameB_iff n (toG x)).1 (hok _ (List.mem_map.2 ⟨x, hx, rfl⟩))).2.2.2.2.1
 intro d
 induction d with
 | zero =>
  intro i hd hi H
  obtain rfl : i = rules.length := by omega
  refine Ev.step (fun k => ?_) H
  simp only [kingpinlaw08_LeagueRules.l2]
  rw [if_neg (by omega), wrapN o (by omega)]
 | succ d ih =>
  intro i hd hi H
  have ih1 := ih (i + 1) (by omega) (by omega) H
  have hm : rd rules (i : Int) ∈ rules := mem_drop_of (dropI rules i (by omega))
  by_cases h3 : rd rules (i : Int) = 3
  ·
   refine Ev.step (fun k => ?_) ih1
   simp only [kingpinlaw08_LeagueRules.l2]
   rw [if_pos (by omega), if_pos (by omega), if_pos h3, wrapN i (by omega)]
  ·
   by_cases hab : rd a (o : Int) = rd a (t : Int)
   ·
    have hs := hA.same _ hm h3 (o : Int) (t : Int) (by omega) ho (by omega) ht (by rw [← ha o (by omega) ho, ← ha t (by omega) ht, hab])
    refine Ev.step (f := fun k => (kingpinref08_Number.f k n l (rd rules (i : Int)) (o : Int) []).bind fun t400 => ((kingpinref08_Number.f k n l (rd rules (i : Int)) (t : Int) []).bind fun t402 => (if t400 = t402 then (kingpinlaw08_LeagueRules.l2 k rules a b (t : Int) cnt (o : Int) ((i + 1 : Nat) : Int) n l) else (some false)))) (fun k => ?_) ?_
    ·
     simp only [kingpinlaw08_LeagueRules.l2]
     rw [if_pos (by omega), if_pos (by omega), if_neg h3, if_pos (by omega), if_pos (by omega), if_pos (by omega), if_pos (by omega), if_pos hab, wrapN i (by omega)]
    ·
     refine Ev.bind (Number_ev n l _ (o : Int) [] (hr _ hm) (by omega) (by simp) hne) (Ev.bind (Number_ev n l _ (t : Int) [] (hr _ hm) (by omega) (by simp) hne) ?_)
     simp only [if_pos (show numF (ruleFn (rd rules (i : Int))) (sidesOf (o : Int) (l.map toG)) [] = numF (ruleFn (rd rules (i : Int))) (sidesOf (t : Int) (l.map toG)) [] from hs)]
     exact ih1
   ·
    refine Ev.step (fun k => ?_) ih1
    simp only [kingpinlaw08_LeagueRules.l2]
    rw [if_pos (by omega), if_pos (by omega), if_neg h3, if_pos (by omega), if_pos (by omega), if_pos (by omega), if_pos (by omega), if_neg hab, wrapN i (by omega)]
theorem rules_l1 (t : Nat) (ht : (t : Int) < n) (R : Bool) (H : Ev (fun k => kingpinlaw08_LeagueRules.l0 k rules a b ((t + 1 : Nat) : Int) n l) R) : ∀ (d o : Nat) (cnt : Int), n.toNat - o = d → (o : Int) ≤ n → 1 ≤ cnt → cnt ≤ 1 + o → cnt + (((teamsL n).drop o).filter fun q => decide (B q < B t)).length = B t →
  Ev (fun k => kingpinlaw08_LeagueRules.l1 k rules a b (t : Int) cnt (o : Int) n l) R := by
 obtain ⟨h20, n2, n6, hok⟩ := check_ok hc
 intro d
 induction d with
 | zero =>
  intro o cnt hd ho h1 h2 hcnt
  have hl : (teamsL n).length = n.toNat := by simp [teamsL]
  rw [List.drop_eq_nil_of_le (by omega)] at hcnt
  refine Ev.step (fun k => ?_) H
  simp only [kingpinlaw08_LeagueRules.l1]
  rw [if_neg (by omega), if_pos (by omega), if_pos (by omega), if_pos (by rw [hb t (by omega) ht]; simpa using hcnt.symm), wrapN t (by omega)]
 | succ d ih =>
  intro o cnt hd ho h1 h2 hcnt
  have hon : (o : Int) < n := by omega
  rw [teams_drop n o hon] at hcnt
  have hbo := hb o (by omega) hon
  have hbt := hb t (by omega) ht
  have tail : ∀ cnt2 : Int, Ev (fun k => kingpinlaw08_LeagueRules.l1 k rules a b (t : Int) cnt2 ((o + 1 : Nat) : Int) n l) R → Ev (fun k => kingpinlaw08_LeagueRules.j4 k rules a b (t : Int) cnt2 (o : Int) n l) R := by
   intro cnt2 H2
   have h5 : Ev (fun k => kingpinlaw08_LeagueRules.j5 k rules a b (t : Int) cnt2 (o : Int) false n l) R := by
    refine Ev.step (f := fun k => kingpinlaw08_LeagueRules.l2 k rules a b (t : Int) cnt2 (o : Int) ((0 : Nat) : Int) n l) (fun k => rfl) ?_
    exact rules_l2 n l rules a b A B hc hrl hr hal hbl hA ha hb hBc hAB t o cnt2 ht hon R rules.length 0 rfl (Nat.zero_le _) H2
   by_cases hlt : rd a (o : Int) < rd a (t : Int)
   ·
    have hlt2 : B o < B t := hAB o t (by omega) hon (by omega) ht (by rw [← ha o (by omega) hon, ← ha t (by omega) ht]; exact hlt)
    refine Ev.step (fun k => ?_) h5
    simp only [kingpinlaw08_LeagueRules.j4]
    rw [if_pos (by omega), if_pos (by omega), if_pos (by omega), if_pos (by omega), if_pos hlt, if_pos (by omega), if_pos (by omega), hbo, hbt, decide_eq_false (by omega)]
   ·
    refine Ev.step (fun k => ?_) h5
    simp only [kingpinlaw08_LeagueRules.j4]
    rw [if_pos (by omega), if_pos (by omega), if_pos (by omega), if_pos (by omega), if_neg hlt]
  by_cases hq : B o < B t
  ·
   rw [List.filter_cons_of_pos (by simpa using hq), List.length_cons] at hcnt
   refine Ev.step (fun k => ?_) (tail (cnt + 1) (ih (o + 1) (cnt + 1) (by omega) (by omega) (by omega) (by omega) (by push_cast at hcnt; omega)))
   simp only [kingpinlaw08_LeagueRules.l1]
   rw [if_pos hon, if_pos (by omega), if_pos (by omega), if_pos (by omega), if_pos (by omega), hbo, hbt, if_pos hq, IntWalk.wrap64_in (cnt + 1) ⟨by omega, by omega⟩]
  ·
   rw [List.filter_cons_of_neg (by simpa using hq)] at hcnt
   refine Ev.step (fun k => ?_) (tail cnt (ih (o + 1) cnt (by omega) (by omega) (by omega) (by omega) hcnt))
   simp only [kingpinlaw08_LeagueRules.l1]
   rw [if_pos hon, if_pos (by omega), if_pos (by omega), if_pos (by omega), if_pos (by omega), hbo, hbt, if_neg hq]
theorem rules_l0 : ∀ (d t : Nat), n.toNat - t = d → (t : Int) ≤ n → Ev (fun k => kingpinlaw08_LeagueRules.l0 k rules a b (t : Int) n l) true := by
 obtain ⟨h20, n2, n6, hok⟩ := check_ok hc
 intro d
 induction d with
 | zero =>
  intro t hd ht
  refine Ev.step (f := fun k => (kingpinlaw08_awake.f).bind fun t => some t) (fun k => ?_) (Ev.bind awake_ev (Ev.now _))
  simp only [kingpinlaw08_LeagueRules.l0]
  rw [if_neg (by omega)]
 | succ d ih =>
  intro t hd ht
  have htn : (t : Int) < n := by omega
  refine Ev.step (f := fun k => kingpinlaw08_LeagueRules.l1 k rules a b (t : Int) 1 ((0 : Nat) : Int) n l) (fun k => ?_) ?_
  ·
   simp only [kingpinlaw08_LeagueRules.l0]
   rw [if_pos htn]
   rfl
  ·
   refine rules_l1 n l rules a b A B hc hrl hr hal hbl hA ha hb hBc hAB t htn true (ih (t + 1) (by omega) (by omega)) n.toNat 0 1 rfl (by omega) (Int.le_refl _) (by omega) ?_
   rw [List.drop_zero, hBc t (by omega) htn]
   omega
end
theorem Rules_ev (a : Int) (l : List S70) (rules : List Int) (more : Int) (hm : 0 ≤ more ∧ more ≤ 255) : Ev (fun k => kingpinlaw08_LeagueRules.f k a l rules more) true := by
 have hawk : Ev (fun k => (kingpinlaw08_awake.f).bind fun t => some t) true := Ev.bind awake_ev (Ev.now _)
 have haw : Ev (fun k => kingpinlaw08_LeagueRules.j0 k rules more true a l) true := Ev.step (f := fun k => (kingpinlaw08_awake.f).bind fun t => some t) (fun k => rfl) hawk
 unfold kingpinlaw08_LeagueRules.f
 refine Ev.bind (ready_ev a l) ?_
 cases hrd : readyB a l with
 | false => exact haw
 | true =>
  simp only [if_true]
  unfold readyB at hrd
  simp only [Bool.and_eq_true, decide_eq_true_eq] at hrd
  obtain ⟨h24, hc⟩ := hrd
  by_cases h5 : (rules.length : Int) > 5
  ·
   simp only [if_pos h5]
   exact haw
  ·
   simp only [if_neg h5]
   refine Ev.bind (listed_ev rules 4 (by omega)) ?_
   have hrb : (rules.all fun x => decide (1 ≤ x) && decide (x ≤ 4)) = rules.all ruleB := rfl
   rw [hrb]
   cases hb : rules.all ruleB with
   | false => exact haw
   | true =>
    have m0 := Int.tmod_nonneg (a := more) 4 hm.1
    have m1 := Int.tmod_lt_of_pos more (show (0 : Int) < 4 by decide)
    obtain ⟨c, hcc⟩ : ∃ c, 1 + Int.tmod more 4 = c := ⟨_, rfl⟩
    have hcv : (1 + Int.tmod more 4) % 256 = c := by omega
    have hcr : (rules ++ [c]).all ruleB = true := by
     rw [List.all_append, hb, Bool.true_and]
     simp [ruleB]
     omega
    obtain ⟨h20, n2, n6, hok⟩ := check_ok hc
    have hr4 : ∀ x ∈ rules, 1 ≤ x ∧ x ≤ 4 := by
     intro x hx
     have := (List.all_eq_true.1 hb) x hx
     simpa [ruleB] using this
    have hR1 := Rank_ev a (l.map toG) rules
    rw [rankF_ok hc (by omega) hb] at hR1
    have hR2 := Rank_ev a (l.map toG) (rules ++ [c])
    rw [rankF_ok hc (by simp; omega) hcr] at hR2
    have hcode := codes_eq rules (by omega)
    have lawA := rank_law hc rules
    have lawB := rank_law hc (rules ++ [c])
    have main := rules_l0 a l rules (rankOf a (l.map toG) rules) (rankOf a (l.map toG) (rules ++ [c])) _ _ hc (by omega) hr4 (rankOf_len _ _ _) (rankOf_len _ _ _) lawA lawA.get lawB.get lawB.cnt (fun o t o0 o1 t0 t1 h => rank_more hc rules c o t o0 o1 t0 t1 h) a.toNat 0 rfl (by omega)
    refine Ev.step (f := fun k => (kingpinlaw08_League.f k a l).bind fun bt363 => ((kingpinlaw08_codes.f rules).bind fun t367 => ((league_Rank.f k bt363.1 bt363.2 t367).bind fun bt370 => ((kingpinlaw08_League.f k a l).bind fun bt374 => ((kingpinlaw08_codes.f rules).bind fun t378 => (if t378.length < 140737488355328 then ((league_Rank.f k bt374.1 bt374.2 (t378 ++ [(1 + (Int.tmod more 4)) % 256])).bind fun bt384 => (if bt370.2 = 0 then (if bt384.2 = 0 then (if (bt370.1.length : Int) = a then (kingpinlaw08_LeagueRules.j1 k rules bt370.1 bt384.1 ((bt384.1.length : Int) != a) a l) else (kingpinlaw08_LeagueRules.j1 k rules bt370.1 bt384.1 true a l)) else (kingpinlaw08_LeagueRules.j1 k rules bt370.1 bt384.1 true a l)) else (kingpinlaw08_LeagueRules.j1 k rules bt370.1 bt384.1 true a l))) else (none))))))) (fun k => rfl) ?_
    refine Ev.bind (League_ev a l (by omega)) ?_
    simp only [hcode, Option.bind_some, hcv, if_pos (show rules.length < 140737488355328 by omega)]
    refine Ev.bind hR1 (Ev.bind (League_ev a l (by omega)) (Ev.bind hR2 ?_))
    have hl1 : ((rankOf a (l.map toG) rules).length : Int) = a := by rw [rankOf_len]; omega
    have hl2 : (((rankOf a (l.map toG) (rules ++ [c])).length : Int) != a) = false := by rw [rankOf_len]; simp; omega
    simp only [eq_self, if_true, if_pos hl1, hl2]
    exact Ev.step (f := fun k => kingpinlaw08_LeagueRules.l0 k rules (rankOf a (l.map toG) rules) (rankOf a (l.map toG) (rules ++ [c])) ((0 : Nat) : Int) a l) (fun k => rfl) main
end Go.Proofs.Ytmnamkcjldaoeaa.PAll
