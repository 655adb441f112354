/- Parts of the proof of leagueRules_holds, in order: HAwake, HP1, HP2, HP8, HR7 -/
import Derived.Test.YtmnamkcjldaoeaaKRules3
import Derived.Test.YtmnamkcjldaoeaaKRules5
import Derived.Test.YtmnamkcjldaoeaaKRules11
import Derived.Test.YtmnamkcjldaoeaaKRules13
import Derived.Test.YtmnamkcjldaoeaaKRules14
import Derived.Test.YtmnamkcjldaoeaaKRules16
import Derived.Test.YtmnamkcjldaoeaaKRules17
namespace Go.Proofs.Ytmnamkcjldaoeaa.PAll
open Go.RowKit Go.Proofs.YtmnamkcjldaoeaaW.PrintWords Go.Proofs.YtmnamkcjldaoeaaW.PrintLast Go.Proofs.YtmnamkcjldaoeaaW.PrintMore
attribute [local go_sem] max2_int min2_int max_two min_two max_three min_three max_four min_four   -- for this text's walks alone
set_option linter.unusedVariables false
set_option linter.unusedSimpArgs false
def awakeF (k : Nat)  : Option (Bool) := (kingpinlaw08_played.f).bind fun bt176 => ((league_Rank.f k bt176.1 bt176.2 (([1, 3] : List Int))).bind fun bt183 => ((kingpinlaw08_played.f).bind fun bt187 => ((league_After.f bt187.1 bt187.2 (([3, 2] : List Int))).bind fun bt194 => ((kingpinlaw08_played.f).bind fun bt198 => ((league_Reason.f bt198.1 bt198.2 2).bind fun bt202 => ((league_Build.f 4).bind fun bt206 => (if bt183.2 = 0 then ((kingpinlaw08_ints.f k bt183.1 (([1, 1, 3, 4] : List Int))).bind fun t213 => (if t213 = true then (if bt194.2 = 0 then ((kingpinlaw08_ints.f k bt194.1 (([2, 3, 2, 3] : List Int))).bind fun t217 => (if t217 = true then (if bt202.2 = 0 then ((kingpinlaw08_ints.f k bt202.1 (([0, 1, 3] : List Int))).bind fun t221 => (if t221 = true then (if bt206.2 = 0 then ((league_ProveSchedule.f 4 bt206.1 3).bind fun t222 => (if t222 = true then ((league_ProveSchedule.f 4 bt206.1 2).bind fun t223 => (some (!t223))) else (some false))) else (some false)) else (some false))) else (some false)) else (some false))) else (some false)) else (some false))) else (some false))))))))
set_option maxHeartbeats 8000000 in
set_option maxRecDepth 100000 in
theorem awake_calls (k : Nat) (r : Bool) (w : World) (hr : r = true) (h : awakeF k = some r) :
  Calls Try.prog 16 #[] w fun e w' => e = .returned (.bool r) ∧ Below w.heap.size w w' := by
 have HB := Aside0.mk (Below.refl w.heap.size w)
 have H : ((kingpinlaw08_played.f).bind fun bt176 => ((league_Rank.f k bt176.1 bt176.2 (([1, 3] : List Int))).bind fun bt183 => ((kingpinlaw08_played.f).bind fun bt187 => ((league_After.f bt187.1 bt187.2 (([3, 2] : List Int))).bind fun bt194 => ((kingpinlaw08_played.f).bind fun bt198 => ((league_Reason.f bt198.1 bt198.2 2).bind fun bt202 => ((league_Build.f 4).bind fun bt206 => (if bt183.2 = 0 then ((kingpinlaw08_ints.f k bt183.1 (([1, 1, 3, 4] : List Int))).bind fun t213 => (if t213 = true then (if bt194.2 = 0 then ((kingpinlaw08_ints.f k bt194.1 (([2, 3, 2, 3] : List Int))).bind fun t217 => (if t217 = true then (if bt202.2 = 0 then ((kingpinlaw08_ints.f k bt202.1 (([0, 1, 3] : List Int))).bind fun t221 => (if t221 = true then (if bt206.2 = 0 then ((league_ProveSchedule.f 4 bt206.1 3).bind fun t222 => (if t222 = true then ((league_ProveSchedule.f 4 bt206.1 2).bind fun t223 => (some (!t223))) else (some false))) else (some false)) else (some false))) else (some false)) else (some false))) else (some false)) else (some false))) else (some false))))))))) = some r := h
 clear h
 replace H := Option.bind_eq_some_iff.mp H
 obtain ⟨⟨t176, t177⟩, A10, H⟩ := H
 replace H : ((league_Rank.f k t176 t177 (([1, 3] : List Int))).bind fun bt183 => ((kingpinlaw08_played.f).bind fun bt187 => ((league_After.f bt187.1 bt187.2 (([3, 2] : List Int))).bind fun bt194 => ((kingpinlaw08_played.f).bind fun bt198 => ((league_Reason.f bt198.1 bt198.2 2).bind fun bt202 => ((league_Build.f 4).bind fun bt206 => (if bt183.2 = 0 then ((kingpinlaw08_ints.f k bt183.1 (([1, 1, 3, 4] : List Int))).bind fun t213 => (if t213 = true then (if bt194.2 = 0 then ((kingpinlaw08_ints.f k bt194.1 (([2, 3, 2, 3] : List Int))).bind fun t217 => (if t217 = true then (if bt202.2 = 0 then ((kingpinlaw08_ints.f k bt202.1 (([0, 1, 3] : List Int))).bind fun t221 => (if t221 = true then (if bt206.2 = 0 then ((league_ProveSchedule.f 4 bt206.1 3).bind fun t222 => (if t222 = true then ((league_ProveSchedule.f 4 bt206.1 2).bind fun t223 => (some (!t223))) else (some false))) else (some false)) else (some false))) else (some false)) else (some false))) else (some false)) else (some false))) else (some false)))))))) = some r := H
 have A1 := Aside0.mk A10
 clear A10
 obtain ⟨y180, hy180⟩ : ∃ y_ : List Int, y_ = (([1, 3] : List Int)) := ⟨_, rfl⟩
 replace H : ((league_Rank.f k t176 t177 y180).bind fun bt183 => ((kingpinlaw08_played.f).bind fun bt187 => ((league_After.f bt187.1 bt187.2 (([3, 2] : List Int))).bind fun bt194 => ((kingpinlaw08_played.f).bind fun bt198 => ((league_Reason.f bt198.1 bt198.2 2).bind fun bt202 => ((league_Build.f 4).bind fun bt206 => (if bt183.2 = 0 then ((kingpinlaw08_ints.f k bt183.1 (([1, 1, 3, 4] : List Int))).bind fun t213 => (if t213 = true then (if bt194.2 = 0 then ((kingpinlaw08_ints.f k bt194.1 (([2, 3, 2, 3] : List Int))).bind fun t217 => (if t217 = true then (if bt202.2 = 0 then ((kingpinlaw08_ints.f k bt202.1 (([0, 1, 3] : List Int))).bind fun t221 => (if t221 = true then (if bt206.2 = 0 then ((league_ProveSchedule.f 4 bt206.1 3).bind fun t222 => (if t222 = true then ((league_ProveSchedule.f 4 bt206.1 2).bind fun t223 => (some (!t223))) else (some false))) else (some false)) else (some false))) else (some false)) else (some false))) else (some false)) else (some false))) else (some false)))))))) = some r := by first | (rw [hy180]; with_reducible exact H) | (have H2_ := (Option.bind_some _ _).symm.trans H; rw [hy180]; with_reducible exact H2_) | (have H2_ := (Option.bind_some _ _).symm.trans H; with_reducible exact H2_) | with_reducible exact H | (rw [hy180]; exact H) | exact H
 have Ny180 := Aside0.mk hy180
 clear hy180
 replace H := Option.bind_eq_some_iff.mp H
 obtain ⟨⟨t183, t186⟩, A20, H⟩ := H
 replace H : ((kingpinlaw08_played.f).bind fun bt187 => ((league_After.f bt187.1 bt187.2 (([3, 2] : List Int))).bind fun bt194 => ((kingpinlaw08_played.f).bind fun bt198 => ((league_Reason.f bt198.1 bt198.2 2).bind fun bt202 => ((league_Build.f 4).bind fun bt206 => (if t186 = 0 then ((kingpinlaw08_ints.f k t183 (([1, 1, 3, 4] : List Int))).bind fun t213 => (if t213 = true then (if bt194.2 = 0 then ((kingpinlaw08_ints.f k bt194.1 (([2, 3, 2, 3] : List Int))).bind fun t217 => (if t217 = true then (if bt202.2 = 0 then ((kingpinlaw08_ints.f k bt202.1 (([0, 1, 3] : List Int))).bind fun t221 => (if t221 = true then (if bt206.2 = 0 then ((league_ProveSchedule.f 4 bt206.1 3).bind fun t222 => (if t222 = true then ((league_ProveSchedule.f 4 bt206.1 2).bind fun t223 => (some (!t223))) else (some false))) else (some false)) else (some false))) else (some false)) else (some false))) else (some false)) else (some false))) else (some false))))))) = some r := H
 have A2 := Aside0.mk A20
 clear A20
 replace H := Option.bind_eq_some_iff.mp H
 obtain ⟨⟨t187, t188⟩, A30, H⟩ := H
 replace H : ((league_After.f t187 t188 (([3, 2] : List Int))).bind fun bt194 => ((kingpinlaw08_played.f).bind fun bt198 => ((league_Reason.f bt198.1 bt198.2 2).bind fun bt202 => ((league_Build.f 4).bind fun bt206 => (if t186 = 0 then ((kingpinlaw08_ints.f k t183 (([1, 1, 3, 4] : List Int))).bind fun t213 => (if t213 = true then (if bt194.2 = 0 then ((kingpinlaw08_ints.f k bt194.1 (([2, 3, 2, 3] : List Int))).bind fun t217 => (if t217 = true then (if bt202.2 = 0 then ((kingpinlaw08_ints.f k bt202.1 (([0, 1, 3] : List Int))).bind fun t221 => (if t221 = true then (if bt206.2 = 0 then ((league_ProveSchedule.f 4 bt206.1 3).bind fun t222 => (if t222 = true then ((league_ProveSchedule.f 4 bt206.1 2).bind fun t223 => (some (!t223))) else (some false))) else (some false)) else (some false))) else (some false)) else (some false))) else (some false)) else (some false))) else (some false)))))) = some r := H
 have A3 := Aside0.mk A30
 clear A30
 obtain ⟨y191, hy191⟩ : ∃ y_ : List Int, y_ = (([3, 2] : List Int)) := ⟨_, rfl⟩
 replace H : ((league_After.f t187 t188 y191).bind fun bt194 => ((kingpinlaw08_played.f).bind fun bt198 => ((league_Reason.f bt198.1 bt198.2 2).bind fun bt202 => ((league_Build.f 4).bind fun bt206 => (if t186 = 0 then ((kingpinlaw08_ints.f k t183 (([1, 1, 3, 4] : List Int))).bind fun t213 => (if t213 = true then (if bt194.2 = 0 then ((kingpinlaw08_ints.f k bt194.1 (([2, 3, 2, 3] : List Int))).bind fun t217 => (if t217 = true then (if bt202.2 = 0 then ((kingpinlaw08_ints.f k bt202.1 (([0, 1, 3] : List Int))).bind fun t221 => (if t221 = true then (if bt206.2 = 0 then ((league_ProveSchedule.f 4 bt206.1 3).bind fun t222 => (if t222 = true then ((league_ProveSchedule.f 4 bt206.1 2).bind fun t223 => (some (!t223))) else (some false))) else (some false)) else (some false))) else (some false)) else (some false))) else (some false)) else (some false))) else (some false)))))) = some r := by first | (rw [hy191]; with_reducible exact H) | (have H2_ := (Option.bind_some _ _).symm.trans H; rw [hy191]; with_reducible exact H2_) | (have H2_ := (Option.bind_some _ _).symm.trans H; with_reducible exact H2_) | with_reducible exact H | (rw [hy191]; exact H) | exact H
 have Ny191 := Aside0.mk hy191
 clear hy191
 replace H := Option.bind_eq_some_iff.mp H
 obtain ⟨⟨t194, t197⟩, A40, H⟩ := H
 replace H : ((kingpinlaw08_played.f).bind fun bt198 => ((league_Reason.f bt198.1 bt198.2 2).bind fun bt202 => ((league_Build.f 4).bind fun bt206 => (if t186 = 0 then ((kingpinlaw08_ints.f k t183 (([1, 1, 3, 4] : List Int))).bind fun t213 => (if t213 = true then (if t197 = 0 then ((kingpinlaw08_ints.f k t194 (([2, 3, 2, 3] : List Int))).bind fun t217 => (if t217 = true then (if bt202.2 = 0 then ((kingpinlaw08_ints.f k bt202.1 (([0, 1, 3] : List Int))).bind fun t221 => (if t221 = true then (if bt206.2 = 0 then ((league_ProveSchedule.f 4 bt206.1 3).bind fun t222 => (if t222 = true then ((league_ProveSchedule.f 4 bt206.1 2).bind fun t223 => (some (!t223))) else (some false))) else (some false)) else (some false))) else (some false)) else (some false))) else (some false)) else (some false))) else (some false))))) = some r := H
 have A4 := Aside0.mk A40
 clear A40
 replace H := Option.bind_eq_some_iff.mp H
 obtain ⟨⟨t198, t199⟩, A50, H⟩ := H
 replace H : ((league_Reason.f t198 t199 2).bind fun bt202 => ((league_Build.f 4).bind fun bt206 => (if t186 = 0 then ((kingpinlaw08_ints.f k t183 (([1, 1, 3, 4] : List Int))).bind fun t213 => (if t213 = true then (if t197 = 0 then ((kingpinlaw08_ints.f k t194 (([2, 3, 2, 3] : List Int))).bind fun t217 => (if t217 = true then (if bt202.2 = 0 then ((kingpinlaw08_ints.f k bt202.1 (([0, 1, 3] : List Int))).bind fun t221 => (if t221 = true then (if bt206.2 = 0 then ((league_ProveSchedule.f 4 bt206.1 3).bind fun t222 => (if t222 = true then ((league_ProveSchedule.f 4 bt206.1 2).bind fun t223 => (some (!t223))) else (some false))) else (some false)) else (some false))) else (some false)) else (some false))) else (some false)) else (some false))) else (some false)))) = some r := H
 have A5 := Aside0.mk A50
 clear A50
 replace H := Option.bind_eq_some_iff.mp H
 obtain ⟨⟨t202, t205⟩, A60, H⟩ := H
 replace H : ((league_Build.f 4).bind fun bt206 => (if t186 = 0 then ((kingpinlaw08_ints.f k t183 (([1, 1, 3, 4] : List Int))).bind fun t213 => (if t213 = true then (if t197 = 0 then ((kingpinlaw08_ints.f k t194 (([2, 3, 2, 3] : List Int))).bind fun t217 => (if t217 = true then (if t205 = 0 then ((kingpinlaw08_ints.f k t202 (([0, 1, 3] : List Int))).bind fun t221 => (if t221 = true then (if bt206.2 = 0 then ((league_ProveSchedule.f 4 bt206.1 3).bind fun t222 => (if t222 = true then ((league_ProveSchedule.f 4 bt206.1 2).bind fun t223 => (some (!t223))) else (some false))) else (some false)) else (some false))) else (some false)) else (some false))) else (some false)) else (some false))) else (some false))) = some r := H
 have A6 := Aside0.mk A60
 clear A60
 replace H := Option.bind_eq_some_iff.mp H
 obtain ⟨⟨t206, t207⟩, A70, H⟩ := H
 replace H : (if t186 = 0 then ((kingpinlaw08_ints.f k t183 (([1, 1, 3, 4] : List Int))).bind fun t213 => (if t213 = true then (if t197 = 0 then ((kingpinlaw08_ints.f k t194 (([2, 3, 2, 3] : List Int))).bind fun t217 => (if t217 = true then (if t205 = 0 then ((kingpinlaw08_ints.f k t202 (([0, 1, 3] : List Int))).bind fun t221 => (if t221 = true then (if t207 = 0 then ((league_ProveSchedule.f 4 t206 3).bind fun t222 => (if t222 = true then ((league_ProveSchedule.f 4 t206 2).bind fun t223 => (some (!t223))) else (some false))) else (some false)) else (some false))) else (some false)) else (some false))) else (some false)) else (some false))) else (some false)) = some r := H
 have A7 := Aside0.mk A70
 clear A70
 by_cases c8 : t186 = 0
 ·
  rw [if_pos c8] at H
  have c8b0 : (t186 == 0) = true := beq_iff_eq.mpr c8
  have c8b1 : (t186 != 0) = false := bne_eq_false_iff_eq.mpr c8
  clear c8
  obtain ⟨y210, hy210⟩ : ∃ y_ : List Int, y_ = (([1, 1, 3, 4] : List Int)) := ⟨_, rfl⟩
  replace H : ((kingpinlaw08_ints.f k t183 y210).bind fun t213 => (if t213 = true then (if t197 = 0 then ((kingpinlaw08_ints.f k t194 (([2, 3, 2, 3] : List Int))).bind fun t217 => (if t217 = true then (if t205 = 0 then ((kingpinlaw08_ints.f k t202 (([0, 1, 3] : List Int))).bind fun t221 => (if t221 = true then (if t207 = 0 then ((league_ProveSchedule.f 4 t206 3).bind fun t222 => (if t222 = true then ((league_ProveSchedule.f 4 t206 2).bind fun t223 => (some (!t223))) else (some false))) else (some false)) else (some false))) else (some false)) else (some false))) else (some false)) else (some false))) = some r := by first | (rw [hy210]; with_reducible exact H) | (have H2_ := (Option.bind_some _ _).symm.trans H; rw [hy210]; with_reducible exact H2_) | (have H2_ := (Option.bind_some _ _).symm.trans H; with_reducible exact H2_) | with_reducible exact H | (rw [hy210]; exact H) | exact H
  have Ny210 := Aside0.mk hy210
  clear hy210
  replace H := Option.bind_eq_some_iff.mp H
  obtain ⟨t213, A90, H⟩ := H
  replace H : (if t213 = true then (if t197 = 0 then ((kingpinlaw08_ints.f k t194 (([2, 3, 2, 3] : List Int))).bind fun t217 => (if t217 = true then (if t205 = 0 then ((kingpinlaw08_ints.f k t202 (([0, 1, 3] : List Int))).bind fun t221 => (if t221 = true then (if t207 = 0 then ((league_ProveSchedule.f 4 t206 3).bind fun t222 => (if t222 = true then ((league_ProveSchedule.f 4 t206 2).bind fun t223 => (some (!t223))) else (some false))) else (some false)) else (some false))) else (some false)) else (some false))) else (some false)) else (some false)) = some r := H
  have A9 := Aside0.mk A90
  clear A90
  by_cases c10 : t213 = true
  ·
   subst c10
   have H1 : (if t197 = 0 then ((kingpinlaw08_ints.f k t194 (([2, 3, 2, 3] : List Int))).bind fun t217 => (if t217 = true then (if t205 = 0 then ((kingpinlaw08_ints.f k t202 (([0, 1, 3] : List Int))).bind fun t221 => (if t221 = true then (if t207 = 0 then ((league_ProveSchedule.f 4 t206 3).bind fun t222 => (if t222 = true then ((league_ProveSchedule.f 4 t206 2).bind fun t223 => (some (!t223))) else (some false))) else (some false)) else (some false))) else (some false)) else (some false))) else (some false)) = some r := by rw [if_pos rfl] at H; exact H
   clear H
   have H := H1
   clear H1
   by_cases c11 : t197 = 0
   ·
    rw [if_pos c11] at H
    have c11b0 : (t197 == 0) = true := beq_iff_eq.mpr c11
    have c11b1 : (t197 != 0) = false := bne_eq_false_iff_eq.mpr c11
    clear c11
    obtain ⟨y214, hy214⟩ : ∃ y_ : List Int, y_ = (([2, 3, 2, 3] : List Int)) := ⟨_, rfl⟩
    replace H : ((kingpinlaw08_ints.f k t194 y214).bind fun t217 => (if t217 = true then (if t205 = 0 then ((kingpinlaw08_ints.f k t202 (([0, 1, 3] : List Int))).bind fun t221 => (if t221 = true then (if t207 = 0 then ((league_ProveSchedule.f 4 t206 3).bind fun t222 => (if t222 = true then ((league_ProveSchedule.f 4 t206 2).bind fun t223 => (some (!t223))) else (some false))) else (some false)) else (some false))) else (some false)) else (some false))) = some r := by first | (rw [hy214]; with_reducible exact H) | (have H2_ := (Option.bind_some _ _).symm.trans H; rw [hy214]; with_reducible exact H2_) | (have H2_ := (Option.bind_some _ _).symm.trans H; with_reducible exact H2_) | with_reducible exact H | (rw [hy214]; exact H) | exact H
    have Ny214 := Aside0.mk hy214
    clear hy214
    replace H := Option.bind_eq_some_iff.mp H
    obtain ⟨t217, A120, H⟩ := H
    replace H : (if t217 = true then (if t205 = 0 then ((kingpinlaw08_ints.f k t202 (([0, 1, 3] : List Int))).bind fun t221 => (if t221 = true then (if t207 = 0 then ((league_ProveSchedule.f 4 t206 3).bind fun t222 => (if t222 = true then ((league_ProveSchedule.f 4 t206 2).bind fun t223 => (some (!t223))) else (some false))) else (some false)) else (some false))) else (some false)) else (some false)) = some r := H
    have A12 := Aside0.mk A120
    clear A120
    by_cases c13 : t217 = true
    ·
     subst c13
     have H1 : (if t205 = 0 then ((kingpinlaw08_ints.f k t202 (([0, 1, 3] : List Int))).bind fun t221 => (if t221 = true then (if t207 = 0 then ((league_ProveSchedule.f 4 t206 3).bind fun t222 => (if t222 = true then ((league_ProveSchedule.f 4 t206 2).bind fun t223 => (some (!t223))) else (some false))) else (some false)) else (some false))) else (some false)) = some r := by rw [if_pos rfl] at H; exact H
     clear H
     have H := H1
     clear H1
     by_cases c14 : t205 = 0
     ·
      rw [if_pos c14] at H
      have c14b0 : (t205 == 0) = true := beq_iff_eq.mpr c14
      have c14b1 : (t205 != 0) = false := bne_eq_false_iff_eq.mpr c14
      clear c14
      obtain ⟨y218, hy218⟩ : ∃ y_ : List Int, y_ = (([0, 1, 3] : List Int)) := ⟨_, rfl⟩
      replace H : ((kingpinlaw08_ints.f k t202 y218).bind fun t221 => (if t221 = true then (if t207 = 0 then ((league_ProveSchedule.f 4 t206 3).bind fun t222 => (if t222 = true then ((league_ProveSchedule.f 4 t206 2).bind fun t223 => (some (!t223))) else (some false))) else (some false)) else (some false))) = some r := by first | (rw [hy218]; with_reducible exact H) | (have H2_ := (Option.bind_some _ _).symm.trans H; rw [hy218]; with_reducible exact H2_) | (have H2_ := (Option.bind_some _ _).symm.trans H; with_reducible exact H2_) | with_reducible exact H | (rw [hy218]; exact H) | exact H
      have Ny218 := Aside0.mk hy218
      clear hy218
      replace H := Option.bind_eq_some_iff.mp H
      obtain ⟨t221, A150, H⟩ := H
      replace H : (if t221 = true then (if t207 = 0 then ((league_ProveSchedule.f 4 t206 3).bind fun t222 => (if t222 = true then ((league_ProveSchedule.f 4 t206 2).bind fun t223 => (some (!t223))) else (some false))) else (some false)) else (some false)) = some r := H
      have A15 := Aside0.mk A150
      clear A150
      by_cases c16 : t221 = true
      ·
       subst c16
       have H1 : (if t207 = 0 then ((league_ProveSchedule.f 4 t206 3).bind fun t222 => (if t222 = true then ((league_ProveSchedule.f 4 t206 2).bind fun t223 => (some (!t223))) else (some false))) else (some false)) = some r := by rw [if_pos rfl] at H; exact H
       clear H
       have H := H1
       clear H1
       by_cases c17 : t207 = 0
       ·
        rw [if_pos c17] at H
        have c17b0 : (t207 == 0) = true := beq_iff_eq.mpr c17
        have c17b1 : (t207 != 0) = false := bne_eq_false_iff_eq.mpr c17
        clear c17
        replace H := Option.bind_eq_some_iff.mp H
        obtain ⟨t222, A180, H⟩ := H
        replace H : (if t222 = true then ((league_ProveSchedule.f 4 t206 2).bind fun t223 => (some (!t223))) else (some false)) = some r := H
        have A18 := Aside0.mk A180
        clear A180
        by_cases c19 : t222 = true
        ·
         subst c19
         have H1 : ((league_ProveSchedule.f 4 t206 2).bind fun t223 => (some (!t223))) = some r := by rw [if_pos rfl] at H; exact H
         clear H
         have H := H1
         clear H1
         replace H := Option.bind_eq_some_iff.mp H
         obtain ⟨t223, A200, H⟩ := H
         replace H : (some (!t223)) = some r := H
         have A20 := Aside0.mk A200
         clear A200
         obtain rfl := Option.some.inj H
         go_enter Try.func16, Try.ntmps16
         go_wp2_with (first | ((with_reducible refine gate_callee (f := 49) rfl ?_); refine goesL_ (some 10) rfl rfl Try.func49 (by kernel_rfl) rfl #[] rfl (by (try simp only [List.map_toArray, List.map_cons, List.map_nil]); first | done | rfl | (simp only [List.length_drop, List.length_take]; rfl)) ?_; (with_reducible refine (kingpinlaw08_played.calls  t176 t177 _ A1.out).mono ?_); rintro e w21 ⟨v178, rfl, ho0, hb⟩; refine ⟨_, rfl, ?_⟩; have n0_ := Aside0.mk (Kd.R_lower ho0 (below_size (by repeat (first | (with_reducible first | exact HB.out | apply below_alloc | apply pw_below_drewN | apply below_drew1) | exact HB.out)))); have n1_ := Aside0.mk (below_step (by repeat (first | (with_reducible first | exact HB.out | apply below_alloc | apply pw_below_drewN | apply below_drew1) | exact HB.out)) hb); clear HB; have HO179 := n0_; have HB := n1_; clear n0_ n1_; (try clear hb); (try clear hb2); (try clear hk); (try clear hi); (try clear ho0)) | ((with_reducible refine gate_dst (N := 11) rfl ?_); (try (refine gate_guard (by rfl) ?_; dsimp only)); refine Kd.R_lit (Kd.int .u8) _ 5 ?hg (N := 11) ?hd (xs := ([1, 3] : List Int)) (inner := [.int .u8 1, .int .u8 3]) (ok := fun _ => True) (okp := fun _ => True) ?hr ?hp (fun _ hk => hk) trivial (Below.refl _ _) (Nat.le_refl _) (by simp) ?_; (case hd => rfl); (case hg => rfl); (case hr => first | (go_simp; done) | (go_simp; rfl)); (case hp => exact (Reps.one (show Kd.M (Kd.int .u8) _ _ _ 1 [.int .u8 1] from rfl) (Reps.one (show Kd.M (Kd.int .u8) _ _ _ 3 [.int .u8 3] from rfl) (Reps.none _ _)))); intro v181 w22 ho23 hb hg_ hnew_; clear hg_ hnew_; (first | rw [← Ny180.out] at ho23 | (simp only [Int.reduceToNat] at ho23; rw [← Ny180.out] at ho23)); have n0_ := Aside0.mk (Kd.R_below (by (with_reducible repeat (first | apply Kd.R_alloc | apply Kd.R_drewN | apply Kd.R_drew)); exact HO179.out) hb); have n1_ := Aside0.mk (Kd.R_lower ho23 (below_size (by repeat (first | (with_reducible first | exact HB.out | apply below_alloc | apply pw_below_drewN | apply below_drew1) | exact HB.out)))); have n2_ := Aside0.mk (below_step (by repeat (first | (with_reducible first | exact HB.out | apply below_alloc | apply pw_below_drewN | apply below_drew1) | exact HB.out)) hb); clear HO179; clear HB; have HO179 := n0_; have HO182 := n1_; have HB := n2_; clear n0_ n1_ n2_; clear hb ho23; obtain ⟨Ao24, co24, eo24⟩ := Kd.R_slice HO179.out; subst eo24; obtain ⟨Ao25, co25, eo25⟩ := Kd.R_slice HO182.out; subst eo25) | ((with_reducible refine gate_callee (f := 19) rfl ?_); refine goesL_ (some 12) rfl rfl Try.func19 (by kernel_rfl) rfl #[.agg #[.int .i64 t176, .slice Ao24 t177.length co24], .slice Ao25 y180.length co25] rfl (by (try simp only [List.map_toArray, List.map_cons, List.map_nil]); first | done | rfl | (simp only [List.length_drop, List.length_take]; rfl)) ?_; (with_reducible refine (league_Rank.calls k t176 _ _ t177 _ _ y180 t183 t186 _ ?side1 ?side2 ?side3 ?side4 A2.out).mono ?_); (case side1 => repeat (first | exact (Kd.R_reads' HO179.out).2.2 | (with_reducible refine Kd.C_alloc ?_ _) | (with_reducible refine Kd.C_drewN ?_ _) | (with_reducible refine Kd.C_drew ?_))); (case side2 => exact (Kd.R_reads' HO179.out).2.1); (case side3 => repeat (first | exact (Kd.R_reads' HO182.out).2.2 | (with_reducible refine Kd.C_alloc ?_ _) | (with_reducible refine Kd.C_drewN ?_ _) | (with_reducible refine Kd.C_drew ?_))); (case side4 => exact (Kd.R_reads' HO182.out).2.1); rintro e w26 ⟨v184, rfl, ho0, hb⟩; refine ⟨_, rfl, ?_⟩; have n0_ := Aside0.mk (Kd.R_below (by (with_reducible repeat (first | apply Kd.R_alloc | apply Kd.R_drewN | apply Kd.R_drew)); exact HO179.out) hb); have n1_ := Aside0.mk (Kd.R_below (by (with_reducible repeat (first | apply Kd.R_alloc | apply Kd.R_drewN | apply Kd.R_drew)); exact HO182.out) hb); have n2_ := Aside0.mk (Kd.R_lower ho0 (below_size (by repeat (first | (with_reducible first | exact HB.out | apply below_alloc | apply pw_below_drewN | apply below_drew1) | exact HB.out)))); have n3_ := Aside0.mk (below_step (by repeat (first | (with_reducible first | exact HB.out | apply below_alloc | apply pw_below_drewN | apply below_drew1) | exact HB.out)) hb); clear HO179; clear HO182; clear HB; have HO179 := n0_; have HO182 := n1_; have HO185 := n2_; have HB := n3_; clear n0_ n1_ n2_ n3_; (try clear hb); (try clear hb2); (try clear hk); (try clear hi); (try clear ho0)) | ((with_reducible refine gate_callee (f := 49) rfl ?_); refine goesL_ (some 16) rfl rfl Try.func49 (by kernel_rfl) rfl #[] rfl (by (try simp only [List.map_toArray, List.map_cons, List.map_nil]); first | done | rfl | (simp only [List.length_drop, List.length_take]; rfl)) ?_; (with_reducible refine (kingpinlaw08_played.calls  t187 t188 _ A3.out).mono ?_); rintro e w27 ⟨v189, rfl, ho0, hb⟩; refine ⟨_, rfl, ?_⟩; have n0_ := Aside0.mk (Kd.R_elder' (by (with_reducible repeat (first | apply Kd.R_alloc | apply Kd.R_drewN | apply Kd.R_drew)); exact HO179.out) (Kd.R_base ho0) hb); have n1_ := Aside0.mk (Kd.R_below (by (with_reducible repeat (first | apply Kd.R_alloc | apply Kd.R_drewN | apply Kd.R_drew)); exact HO182.out) hb); have n2_ := Aside0.mk (Kd.R_below (by (with_reducible repeat (first | apply Kd.R_alloc | apply Kd.R_drewN | apply Kd.R_drew)); exact HO185.out) hb); have n3_ := Aside0.mk (Kd.R_lower (Kd.R_new' ho0 (Kd.R_lt (by (with_reducible repeat (first | apply Kd.R_alloc | apply Kd.R_drewN | apply Kd.R_drew)); exact HO179.out))) (below_size (by repeat (first | (with_reducible first | exact HB.out | apply below_alloc | apply pw_below_drewN | apply below_drew1) | exact HB.out)))); have n4_ := Aside0.mk (below_step (by repeat (first | (with_reducible first | exact HB.out | apply below_alloc | apply pw_below_drewN | apply below_drew1) | exact HB.out)) hb); clear HO179; clear HO182; clear HO185; clear HB; have HO179 := n0_; have HO182 := n1_; have HO185 := n2_; have HO190 := n3_; have HB := n4_; clear n0_ n1_ n2_ n3_ n4_; (try clear hb); (try clear hb2); (try clear hk); (try clear hi); (try clear ho0)) | ((with_reducible refine gate_dst (N := 17) rfl ?_); (try (refine gate_guard (by rfl) ?_; dsimp only)); refine Kd.R_lit (Kd.int .u8) _ 5 ?hg (N := 17) ?hd (xs := ([3, 2] : List Int)) (inner := [.int .u8 3, .int .u8 2]) (ok := fun _ => True) (okp := fun _ => True) ?hr ?hp (fun _ hk => hk) trivial (Below.refl _ _) (Nat.le_refl _) (by simp) ?_; (case hd => rfl); (case hg => rfl); (case hr => first | (go_simp; done) | (go_simp; rfl)); (case hp => exact (Reps.one (show Kd.M (Kd.int .u8) _ _ _ 3 [.int .u8 3] from rfl) (Reps.one (show Kd.M (Kd.int .u8) _ _ _ 2 [.int .u8 2] from rfl) (Reps.none _ _)))); intro v192 w28 ho29 hb hg_ hnew_; clear hg_ hnew_; (first | rw [← Ny191.out] at ho29 | (simp only [Int.reduceToNat] at ho29; rw [← Ny191.out] at ho29)); have n0_ := Aside0.mk (Kd.R_below (by (with_reducible repeat (first | apply Kd.R_alloc | apply Kd.R_drewN | apply Kd.R_drew)); exact HO179.out) hb); have n1_ := Aside0.mk (Kd.R_elder' (by (with_reducible repeat (first | apply Kd.R_alloc | apply Kd.R_drewN | apply Kd.R_drew)); exact HO182.out) (Kd.R_base ho29) hb); have n2_ := Aside0.mk (Kd.R_below (by (with_reducible repeat (first | apply Kd.R_alloc | apply Kd.R_drewN | apply Kd.R_drew)); exact HO185.out) hb); have n3_ := Aside0.mk (Kd.R_below (by (with_reducible repeat (first | apply Kd.R_alloc | apply Kd.R_drewN | apply Kd.R_drew)); exact HO190.out) hb); have n4_ := Aside0.mk (Kd.R_lower (Kd.R_new' ho29 (Kd.R_lt (by (with_reducible repeat (first | apply Kd.R_alloc | apply Kd.R_drewN | apply Kd.R_drew)); exact HO182.out))) (below_size (by repeat (first | (with_reducible first | exact HB.out | apply below_alloc | apply pw_below_drewN | apply below_drew1) | exact HB.out)))); have n5_ := Aside0.mk (below_step (by repeat (first | (with_reducible first | exact HB.out | apply below_alloc | apply pw_below_drewN | apply below_drew1) | exact HB.out)) hb); clear HO179; clear HO182; clear HO185; clear HO190; clear HB; have HO179 := n0_; have HO182 := n1_; have HO185 := n2_; have HO190 := n3_; have HO193 := n4_; have HB := n5_; clear n0_ n1_ n2_ n3_ n4_ n5_; clear hb ho29; obtain ⟨Ao30, co30, eo30⟩ := Kd.R_slice HO190.out; subst eo30; obtain ⟨Ao31, co31, eo31⟩ := Kd.R_slice HO193.out; subst eo31) | ((with_reducible refine gate_callee (f := 25) rfl ?_); refine goesL_ (some 18) rfl rfl Try.func25 (by kernel_rfl) rfl #[.agg #[.int .i64 t187, .slice Ao30 t188.length co30], .slice Ao31 y191.length co31] rfl (by (try simp only [List.map_toArray, List.map_cons, List.map_nil]); first | done | rfl | (simp only [List.length_drop, List.length_take]; rfl)) ?_; (with_reducible refine (league_After.calls t187 _ _ t188 _ _ y191 t194 t197 _ ?side1 ?side2 ?side3 ?side4 A4.out).mono ?_); (case side1 => repeat (first | exact (Kd.R_reads' HO190.out).2.2 | (with_reducible refine Kd.C_alloc ?_ _) | (with_reducible refine Kd.C_drewN ?_ _) | (with_reducible refine Kd.C_drew ?_))); (case side2 => exact (Kd.R_reads' HO190.out).2.1); (case side3 => repeat (first | exact (Kd.R_reads' HO193.out).2.2 | (with_reducible refine Kd.C_alloc ?_ _) | (with_reducible refine Kd.C_drewN ?_ _) | (with_reducible refine Kd.C_drew ?_))); (case side4 => exact (Kd.R_reads' HO193.out).2.1); rintro e w32 ⟨v195, rfl, ho0, hb⟩; refine ⟨_, rfl, ?_⟩; have n0_ := Aside0.mk (Kd.R_below (by (with_reducible repeat (first | apply Kd.R_alloc | apply Kd.R_drewN | apply Kd.R_drew)); exact HO179.out) hb); have n1_ := Aside0.mk (Kd.R_below (by (with_reducible repeat (first | apply Kd.R_alloc | apply Kd.R_drewN | apply Kd.R_drew)); exact HO182.out) hb); have n2_ := Aside0.mk (Kd.R_elder' (by (with_reducible repeat (first | apply Kd.R_alloc | apply Kd.R_drewN | apply Kd.R_drew)); exact HO185.out) (Kd.R_base ho0) hb); have n3_ := Aside0.mk (Kd.R_below (by (with_reducible repeat (first | apply Kd.R_alloc | apply Kd.R_drewN | apply Kd.R_drew)); exact HO190.out) hb); have n4_ := Aside0.mk (Kd.R_below (by (with_reducible repeat (first | apply Kd.R_alloc | apply Kd.R_drewN | apply Kd.R_drew)); exact HO193.out) hb); have n5_ := Aside0.mk (Kd.R_lower (Kd.R_new' ho0 (Kd.R_lt (by (with_reducible repeat (first | apply Kd.R_alloc | apply Kd.R_drewN | apply Kd.R_drew)); exact HO185.out))) (below_size (by repeat (first | (with_reducible first | exact HB.out | apply below_alloc | apply pw_below_drewN | apply below_drew1) | exact HB.out)))); have n6_ := Aside0.mk (below_step (by repeat (first | (with_reducible first | exact HB.out | apply below_alloc | apply pw_below_drewN | apply below_drew1) | exact HB.out)) hb); clear HO179; clear HO182; clear HO185; clear HO190; clear HO193; clear HB; have HO179 := n0_; have HO182 := n1_; have HO185 := n2_; have HO190 := n3_; have HO193 := n4_; have HO196 := n5_; have HB := n6_; clear n0_ n1_ n2_ n3_ n4_ n5_ n6_; (try clear hb); (try clear hb2); (try clear hk); (try clear hi); (try clear ho0)) | ((with_reducible refine gate_callee (f := 49) rfl ?_); refine goesL_ (some 22) rfl rfl Try.func49 (by kernel_rfl) rfl #[] rfl (by (try simp only [List.map_toArray, List.map_cons, List.map_nil]); first | done | rfl | (simp only [List.length_drop, List.length_take]; rfl)) ?_; (with_reducible refine (kingpinlaw08_played.calls  t198 t199 _ A5.out).mono ?_); rintro e w33 ⟨v200, rfl, ho0, hb⟩; refine ⟨_, rfl, ?_⟩; have n0_ := Aside0.mk (Kd.R_elder' (by (with_reducible repeat (first | apply Kd.R_alloc | apply Kd.R_drewN | apply Kd.R_drew)); exact HO179.out) (Kd.R_base ho0) hb); have n1_ := Aside0.mk (Kd.R_below (by (with_reducible repeat (first | apply Kd.R_alloc | apply Kd.R_drewN | apply Kd.R_drew)); exact HO182.out) hb); have n2_ := Aside0.mk (Kd.R_below (by (with_reducible repeat (first | apply Kd.R_alloc | apply Kd.R_drewN | apply Kd.R_drew)); exact HO185.out) hb); have n3_ := Aside0.mk (Kd.R_elder' (by (with_reducible repeat (first | apply Kd.R_alloc | apply Kd.R_drewN | apply Kd.R_drew)); exact HO190.out) (Kd.R_base ho0) hb); have n4_ := Aside0.mk (Kd.R_below (by (with_reducible repeat (first | apply Kd.R_alloc | apply Kd.R_drewN | apply Kd.R_drew)); exact HO193.out) hb); have n5_ := Aside0.mk (Kd.R_below (by (with_reducible repeat (first | apply Kd.R_alloc | apply Kd.R_drewN | apply Kd.R_drew)); exact HO196.out) hb); have n6_ := Aside0.mk (Kd.R_lower (Kd.R_new' (Kd.R_new' ho0 (Kd.R_lt (by (with_reducible repeat (first | apply Kd.R_alloc | apply Kd.R_drewN | apply Kd.R_drew)); exact HO179.out))) (Kd.R_lt (by (with_reducible repeat (first | apply Kd.R_alloc | apply Kd.R_drewN | apply Kd.R_drew)); exact HO190.out))) (below_size (by repeat (first | (with_reducible first | exact HB.out | apply below_alloc | apply pw_below_drewN | apply below_drew1) | exact HB.out)))); have n7_ := Aside0.mk (below_step (by repeat (first | (with_reducible first | exact HB.out | apply below_alloc | apply pw_below_drewN | apply below_drew1) | exact HB.out)) hb); clear HO179; clear HO182; clear HO185; clear HO190; clear HO193; clear HO196; clear HB; have HO179 := n0_; have HO182 := n1_; have HO185 := n2_; have HO190 := n3_; have HO193 := n4_; have HO196 := n5_; have HO201 := n6_; have HB := n7_; clear n0_ n1_ n2_ n3_ n4_ n5_ n6_ n7_; (try clear hb); (try clear hb2); (try clear hk); (try clear hi); (try clear ho0); obtain ⟨Ao34, co34, eo34⟩ := Kd.R_slice HO201.out; subst eo34) | ((with_reducible refine gate_callee (f := 37) rfl ?_); refine goesL_ (some 23) rfl rfl Try.func37 (by kernel_rfl) rfl #[.agg #[.int .i64 t198, .slice Ao34 t199.length co34], .int .i64 2] rfl (by (try simp only [List.map_toArray, List.map_cons, List.map_nil]); first | done | rfl | (simp only [List.length_drop, List.length_take]; rfl)) ?_; (with_reducible refine (league_Reason.calls t198 _ _ t199 2 t202 t205 _ ?side1 ?side2 A6.out).mono ?_); (case side1 => repeat (first | exact (Kd.R_reads' HO201.out).2.2 | (with_reducible refine Kd.C_alloc ?_ _) | (with_reducible refine Kd.C_drewN ?_ _) | (with_reducible refine Kd.C_drew ?_))); (case side2 => exact (Kd.R_reads' HO201.out).2.1); rintro e w35 ⟨v203, rfl, ho0, hb⟩; refine ⟨_, rfl, ?_⟩; have n0_ := Aside0.mk (Kd.R_below (by (with_reducible repeat (first | apply Kd.R_alloc | apply Kd.R_drewN | apply Kd.R_drew)); exact HO179.out) hb); have n1_ := Aside0.mk (Kd.R_below (by (with_reducible repeat (first | apply Kd.R_alloc | apply Kd.R_drewN | apply Kd.R_drew)); exact HO182.out) hb); have n2_ := Aside0.mk (Kd.R_elder' (by (with_reducible repeat (first | apply Kd.R_alloc | apply Kd.R_drewN | apply Kd.R_drew)); exact HO185.out) (Kd.R_base ho0) hb); have n3_ := Aside0.mk (Kd.R_below (by (with_reducible repeat (first | apply Kd.R_alloc | apply Kd.R_drewN | apply Kd.R_drew)); exact HO190.out) hb); have n4_ := Aside0.mk (Kd.R_below (by (with_reducible repeat (first | apply Kd.R_alloc | apply Kd.R_drewN | apply Kd.R_drew)); exact HO193.out) hb); have n5_ := Aside0.mk (Kd.R_elder' (by (with_reducible repeat (first | apply Kd.R_alloc | apply Kd.R_drewN | apply Kd.R_drew)); exact HO196.out) (Kd.R_base ho0) hb); have n6_ := Aside0.mk (Kd.R_below (by (with_reducible repeat (first | apply Kd.R_alloc | apply Kd.R_drewN | apply Kd.R_drew)); exact HO201.out) hb); have n7_ := Aside0.mk (Kd.R_lower (Kd.R_new' (Kd.R_new' ho0 (Kd.R_lt (by (with_reducible repeat (first | apply Kd.R_alloc | apply Kd.R_drewN | apply Kd.R_drew)); exact HO185.out))) (Kd.R_lt (by (with_reducible repeat (first | apply Kd.R_alloc | apply Kd.R_drewN | apply Kd.R_drew)); exact HO196.out))) (below_size (by repeat (first | (with_reducible first | exact HB.out | apply below_alloc | apply pw_below_drewN | apply below_drew1) | exact HB.out)))); have n8_ := Aside0.mk (below_step (by repeat (first | (with_reducible first | exact HB.out | apply below_alloc | apply pw_below_drewN | apply below_drew1) | exact HB.out)) hb); clear HO179; clear HO182; clear HO185; clear HO190; clear HO193; clear HO196; clear HO201; clear HB; have HO179 := n0_; have HO182 := n1_; have HO185 := n2_; have HO190 := n3_; have HO193 := n4_; have HO196 := n5_; have HO201 := n6_; have HO204 := n7_; have HB := n8_; clear n0_ n1_ n2_ n3_ n4_ n5_ n6_ n7_ n8_; (try clear hb); (try clear hb2); (try clear hk); (try clear hi); (try clear ho0)) | ((with_reducible refine gate_callee (f := 29) rfl ?_); refine goesL_ (some 27) rfl rfl Try.func29 (by kernel_rfl) rfl #[.int .i64 4] rfl (by (try simp only [List.map_toArray, List.map_cons, List.map_nil]); first | done | rfl | (simp only [List.length_drop, List.length_take]; rfl)) ?_; (with_reducible refine (league_Build.calls 4 t206 t207 _ A7.out).mono ?_); rintro e w36 ⟨v208, rfl, ho0, hb⟩; refine ⟨_, rfl, ?_⟩; have n0_ := Aside0.mk (Kd.R_below (by (with_reducible repeat (first | apply Kd.R_alloc | apply Kd.R_drewN | apply Kd.R_drew)); exact HO179.out) hb); have n1_ := Aside0.mk (Kd.R_below (by (with_reducible repeat (first | apply Kd.R_alloc | apply Kd.R_drewN | apply Kd.R_drew)); exact HO182.out) hb); have n2_ := Aside0.mk (Kd.R_below (by (with_reducible repeat (first | apply Kd.R_alloc | apply Kd.R_drewN | apply Kd.R_drew)); exact HO185.out) hb); have n3_ := Aside0.mk (Kd.R_below (by (with_reducible repeat (first | apply Kd.R_alloc | apply Kd.R_drewN | apply Kd.R_drew)); exact HO190.out) hb); have n4_ := Aside0.mk (Kd.R_below (by (with_reducible repeat (first | apply Kd.R_alloc | apply Kd.R_drewN | apply Kd.R_drew)); exact HO193.out) hb); have n5_ := Aside0.mk (Kd.R_below (by (with_reducible repeat (first | apply Kd.R_alloc | apply Kd.R_drewN | apply Kd.R_drew)); exact HO196.out) hb); have n6_ := Aside0.mk (Kd.R_below (by (with_reducible repeat (first | apply Kd.R_alloc | apply Kd.R_drewN | apply Kd.R_drew)); exact HO201.out) hb); have n7_ := Aside0.mk (Kd.R_below (by (with_reducible repeat (first | apply Kd.R_alloc | apply Kd.R_drewN | apply Kd.R_drew)); exact HO204.out) hb); have n8_ := Aside0.mk (Kd.S_lower ho0 (below_size (by repeat (first | (with_reducible first | exact HB.out | apply below_alloc | apply pw_below_drewN | apply below_drew1) | exact HB.out)))); have n9_ := Aside0.mk (below_step (by repeat (first | (with_reducible first | exact HB.out | apply below_alloc | apply pw_below_drewN | apply below_drew1) | exact HB.out)) hb); clear HO179; clear HO182; clear HO185; clear HO190; clear HO193; clear HO196; clear HO201; clear HO204; clear HB; have HO179 := n0_; have HO182 := n1_; have HO185 := n2_; have HO190 := n3_; have HO193 := n4_; have HO196 := n5_; have HO201 := n6_; have HO204 := n7_; have HO209 := n8_; have HB := n9_; clear n0_ n1_ n2_ n3_ n4_ n5_ n6_ n7_ n8_ n9_; (try clear hb); (try clear hb2); (try clear hk); (try clear hi); (try clear ho0)) | ((with_reducible refine gate_dst (N := 34) rfl ?_); (try (refine gate_guard (by rfl) ?_; dsimp only)); refine Kd.R_lit (Kd.int .i64) _ 3 ?hg (N := 34) ?hd (xs := ([1, 1, 3, 4] : List Int)) (inner := [.int .i64 1, .int .i64 1, .int .i64 3, .int .i64 4]) (ok := fun _ => True) (okp := fun _ => True) ?hr ?hp (fun _ hk => hk) trivial (Below.refl _ _) (Nat.le_refl _) (by simp) ?_; (case hd => rfl); (case hg => rfl); (case hr => first | (go_simp; done) | (go_simp; rfl)); (case hp => exact (Reps.one (show Kd.M (Kd.int .i64) _ _ _ 1 [.int .i64 1] from rfl) (Reps.one (show Kd.M (Kd.int .i64) _ _ _ 1 [.int .i64 1] from rfl) (Reps.one (show Kd.M (Kd.int .i64) _ _ _ 3 [.int .i64 3] from rfl) (Reps.one (show Kd.M (Kd.int .i64) _ _ _ 4 [.int .i64 4] from rfl) (Reps.none _ _)))))); intro v211 w37 ho38 hb hg_ hnew_; clear hg_ hnew_; (first | rw [← Ny210.out] at ho38 | (simp only [Int.reduceToNat] at ho38; rw [← Ny210.out] at ho38)); have n0_ := Aside0.mk (Kd.R_below (by (with_reducible repeat (first | apply Kd.R_alloc | apply Kd.R_drewN | apply Kd.R_drew)); exact HO179.out) hb); have n1_ := Aside0.mk (Kd.R_below (by (with_reducible repeat (first | apply Kd.R_alloc | apply Kd.R_drewN | apply Kd.R_drew)); exact HO182.out) hb); have n2_ := Aside0.mk (Kd.R_elder' (by (with_reducible repeat (first | apply Kd.R_alloc | apply Kd.R_drewN | apply Kd.R_drew)); exact HO185.out) (Kd.R_base ho38) hb); have n3_ := Aside0.mk (Kd.R_below (by (with_reducible repeat (first | apply Kd.R_alloc | apply Kd.R_drewN | apply Kd.R_drew)); exact HO190.out) hb); have n4_ := Aside0.mk (Kd.R_below (by (with_reducible repeat (first | apply Kd.R_alloc | apply Kd.R_drewN | apply Kd.R_drew)); exact HO193.out) hb); have n5_ := Aside0.mk (Kd.R_elder' (by (with_reducible repeat (first | apply Kd.R_alloc | apply Kd.R_drewN | apply Kd.R_drew)); exact HO196.out) (Kd.R_base ho38) hb); have n6_ := Aside0.mk (Kd.R_below (by (with_reducible repeat (first | apply Kd.R_alloc | apply Kd.R_drewN | apply Kd.R_drew)); exact HO201.out) hb); have n7_ := Aside0.mk (Kd.R_elder' (by (with_reducible repeat (first | apply Kd.R_alloc | apply Kd.R_drewN | apply Kd.R_drew)); exact HO204.out) (Kd.R_base ho38) hb); have n8_ := Aside0.mk (Kd.S_below (by (with_reducible repeat (first | apply Kd.S_alloc | apply Kd.S_drewN | apply Kd.S_drew)); exact HO209.out) hb); have n9_ := Aside0.mk (Kd.R_lower (Kd.R_new' (Kd.R_new' (Kd.R_new' ho38 (Kd.R_lt (by (with_reducible repeat (first | apply Kd.R_alloc | apply Kd.R_drewN | apply Kd.R_drew)); exact HO185.out))) (Kd.R_lt (by (with_reducible repeat (first | apply Kd.R_alloc | apply Kd.R_drewN | apply Kd.R_drew)); exact HO196.out))) (Kd.R_lt (by (with_reducible repeat (first | apply Kd.R_alloc | apply Kd.R_drewN | apply Kd.R_drew)); exact HO204.out))) (below_size (by repeat (first | (with_reducible first | exact HB.out | apply below_alloc | apply pw_below_drewN | apply below_drew1) | exact HB.out)))); have n10_ := Aside0.mk (below_step (by repeat (first | (with_reducible first | exact HB.out | apply below_alloc | apply pw_below_drewN | apply below_drew1) | exact HB.out)) hb); clear HO179; clear HO182; clear HO185; clear HO190; clear HO193; clear HO196; clear HO201; clear HO204; clear HO209; clear HB; have HO179 := n0_; have HO182 := n1_; have HO185 := n2_; have HO190 := n3_; have HO193 := n4_; have HO196 := n5_; have HO201 := n6_; have HO204 := n7_; have HO209 := n8_; have HO212 := n9_; have HB := n10_; clear n0_ n1_ n2_ n3_ n4_ n5_ n6_ n7_ n8_ n9_ n10_; clear hb ho38; obtain ⟨Ao39, co39, eo39⟩ := Kd.R_slice HO185.out; subst eo39; obtain ⟨Ao40, co40, eo40⟩ := Kd.R_slice HO212.out; subst eo40) | (go_at_call 23; (with_reducible refine (kingpinlaw08_ints.calls k _ _ t183 _ _ y210 true _ ?side1 ?side2 ?side3 ?side4 A9.out).mono ?_); (case side1 => repeat (first | exact (Kd.R_reads' HO185.out).2.2 | (with_reducible refine Kd.C_alloc ?_ _) | (with_reducible refine Kd.C_drewN ?_ _) | (with_reducible refine Kd.C_drew ?_))); (case side2 => exact (Kd.R_reads' HO185.out).2.1); (case side3 => repeat (first | exact (Kd.R_reads' HO212.out).2.2 | (with_reducible refine Kd.C_alloc ?_ _) | (with_reducible refine Kd.C_drewN ?_ _) | (with_reducible refine Kd.C_drew ?_))); (case side4 => exact (Kd.R_reads' HO212.out).2.1); rintro e w' ⟨rfl, ⟨nd, rfl⟩⟩) | ((with_reducible refine gate_dst (N := 43) rfl ?_); (try (refine gate_guard (by rfl) ?_; dsimp only)); refine Kd.R_lit (Kd.int .i64) _ 3 ?hg (N := 43) ?hd (xs := ([2, 3, 2, 3] : List Int)) (inner := [.int .i64 2, .int .i64 3, .int .i64 2, .int .i64 3]) (ok := fun _ => True) (okp := fun _ => True) ?hr ?hp (fun _ hk => hk) trivial (Below.refl _ _) (Nat.le_refl _) (by simp) ?_; (case hd => rfl); (case hg => rfl); (case hr => first | (go_simp; done) | (go_simp; rfl)); (case hp => exact (Reps.one (show Kd.M (Kd.int .i64) _ _ _ 2 [.int .i64 2] from rfl) (Reps.one (show Kd.M (Kd.int .i64) _ _ _ 3 [.int .i64 3] from rfl) (Reps.one (show Kd.M (Kd.int .i64) _ _ _ 2 [.int .i64 2] from rfl) (Reps.one (show Kd.M (Kd.int .i64) _ _ _ 3 [.int .i64 3] from rfl) (Reps.none _ _)))))); intro v215 w41 ho42 hb hg_ hnew_; clear hg_ hnew_; (first | rw [← Ny214.out] at ho42 | (simp only [Int.reduceToNat] at ho42; rw [← Ny214.out] at ho42)); have n0_ := Aside0.mk (Kd.R_below (by (with_reducible repeat (first | apply Kd.R_alloc | apply Kd.R_drewN | apply Kd.R_drew)); exact HO179.out) hb); have n1_ := Aside0.mk (Kd.R_below (by (with_reducible repeat (first | apply Kd.R_alloc | apply Kd.R_drewN | apply Kd.R_drew)); exact HO182.out) hb); have n2_ := Aside0.mk (Kd.R_elder' (by (with_reducible repeat (first | apply Kd.R_alloc | apply Kd.R_drewN | apply Kd.R_drew)); exact HO185.out) (Kd.R_base ho42) hb); have n3_ := Aside0.mk (Kd.R_below (by (with_reducible repeat (first | apply Kd.R_alloc | apply Kd.R_drewN | apply Kd.R_drew)); exact HO190.out) hb); have n4_ := Aside0.mk (Kd.R_below (by (with_reducible repeat (first | apply Kd.R_alloc | apply Kd.R_drewN | apply Kd.R_drew)); exact HO193.out) hb); have n5_ := Aside0.mk (Kd.R_elder' (by (with_reducible repeat (first | apply Kd.R_alloc | apply Kd.R_drewN | apply Kd.R_drew)); exact HO196.out) (Kd.R_base ho42) hb); have n6_ := Aside0.mk (Kd.R_below (by (with_reducible repeat (first | apply Kd.R_alloc | apply Kd.R_drewN | apply Kd.R_drew)); exact HO201.out) hb); have n7_ := Aside0.mk (Kd.R_elder' (by (with_reducible repeat (first | apply Kd.R_alloc | apply Kd.R_drewN | apply Kd.R_drew)); exact HO204.out) (Kd.R_base ho42) hb); have n8_ := Aside0.mk (Kd.S_below (by (with_reducible repeat (first | apply Kd.S_alloc | apply Kd.S_drewN | apply Kd.S_drew)); exact HO209.out) hb); have n9_ := Aside0.mk (Kd.R_elder' (by (with_reducible repeat (first | apply Kd.R_alloc | apply Kd.R_drewN | apply Kd.R_drew)); exact HO212.out) (Kd.R_base ho42) hb); have n10_ := Aside0.mk (Kd.R_lower (Kd.R_new' (Kd.R_new' (Kd.R_new' (Kd.R_new' ho42 (Kd.R_lt (by (with_reducible repeat (first | apply Kd.R_alloc | apply Kd.R_drewN | apply Kd.R_drew)); exact HO185.out))) (Kd.R_lt (by (with_reducible repeat (first | apply Kd.R_alloc | apply Kd.R_drewN | apply Kd.R_drew)); exact HO196.out))) (Kd.R_lt (by (with_reducible repeat (first | apply Kd.R_alloc | apply Kd.R_drewN | apply Kd.R_drew)); exact HO204.out))) (Kd.R_lt (by (with_reducible repeat (first | apply Kd.R_alloc | apply Kd.R_drewN | apply Kd.R_drew)); exact HO212.out))) (below_size (by repeat (first | (with_reducible first | exact HB.out | apply below_alloc | apply pw_below_drewN | apply below_drew1) | exact HB.out)))); have n11_ := Aside0.mk (below_step (by repeat (first | (with_reducible first | exact HB.out | apply below_alloc | apply pw_below_drewN | apply below_drew1) | exact HB.out)) hb); clear HO179; clear HO182; clear HO185; clear HO190; clear HO193; clear HO196; clear HO201; clear HO204; clear HO209; clear HO212; clear HB; have HO179 := n0_; have HO182 := n1_; have HO185 := n2_; have HO190 := n3_; have HO193 := n4_; have HO196 := n5_; have HO201 := n6_; have HO204 := n7_; have HO209 := n8_; have HO212 := n9_; have HO216 := n10_; have HB := n11_; clear n0_ n1_ n2_ n3_ n4_ n5_ n6_ n7_ n8_ n9_ n10_ n11_; clear hb ho42; obtain ⟨Ao43, co43, eo43⟩ := Kd.R_slice HO196.out; subst eo43; obtain ⟨Ao44, co44, eo44⟩ := Kd.R_slice HO216.out; subst eo44) | (go_at_call 23; (with_reducible refine (kingpinlaw08_ints.calls k _ _ t194 _ _ y214 true _ ?side1 ?side2 ?side3 ?side4 A12.out).mono ?_); (case side1 => repeat (first | exact (Kd.R_reads' HO196.out).2.2 | (with_reducible refine Kd.C_alloc ?_ _) | (with_reducible refine Kd.C_drewN ?_ _) | (with_reducible refine Kd.C_drew ?_))); (case side2 => exact (Kd.R_reads' HO196.out).2.1); (case side3 => repeat (first | exact (Kd.R_reads' HO216.out).2.2 | (with_reducible refine Kd.C_alloc ?_ _) | (with_reducible refine Kd.C_drewN ?_ _) | (with_reducible refine Kd.C_drew ?_))); (case side4 => exact (Kd.R_reads' HO216.out).2.1); rintro e w' ⟨rfl, ⟨nd, rfl⟩⟩) | ((with_reducible refine gate_dst (N := 52) rfl ?_); (try (refine gate_guard (by rfl) ?_; dsimp only)); refine Kd.R_lit (Kd.int .i64) _ 3 ?hg (N := 52) ?hd (xs := ([0, 1, 3] : List Int)) (inner := [.int .i64 0, .int .i64 1, .int .i64 3]) (ok := fun _ => True) (okp := fun _ => True) ?hr ?hp (fun _ hk => hk) trivial (Below.refl _ _) (Nat.le_refl _) (by simp) ?_; (case hd => rfl); (case hg => rfl); (case hr => first | (go_simp; done) | (go_simp; rfl)); (case hp => exact (Reps.one (show Kd.M (Kd.int .i64) _ _ _ 0 [.int .i64 0] from rfl) (Reps.one (show Kd.M (Kd.int .i64) _ _ _ 1 [.int .i64 1] from rfl) (Reps.one (show Kd.M (Kd.int .i64) _ _ _ 3 [.int .i64 3] from rfl) (Reps.none _ _))))); intro v219 w45 ho46 hb hg_ hnew_; clear hg_ hnew_; (first | rw [← Ny218.out] at ho46 | (simp only [Int.reduceToNat] at ho46; rw [← Ny218.out] at ho46)); have n0_ := Aside0.mk (Kd.R_below (by (with_reducible repeat (first | apply Kd.R_alloc | apply Kd.R_drewN | apply Kd.R_drew)); exact HO179.out) hb); have n1_ := Aside0.mk (Kd.R_below (by (with_reducible repeat (first | apply Kd.R_alloc | apply Kd.R_drewN | apply Kd.R_drew)); exact HO182.out) hb); have n2_ := Aside0.mk (Kd.R_elder' (by (with_reducible repeat (first | apply Kd.R_alloc | apply Kd.R_drewN | apply Kd.R_drew)); exact HO185.out) (Kd.R_base ho46) hb); have n3_ := Aside0.mk (Kd.R_below (by (with_reducible repeat (first | apply Kd.R_alloc | apply Kd.R_drewN | apply Kd.R_drew)); exact HO190.out) hb); have n4_ := Aside0.mk (Kd.R_below (by (with_reducible repeat (first | apply Kd.R_alloc | apply Kd.R_drewN | apply Kd.R_drew)); exact HO193.out) hb); have n5_ := Aside0.mk (Kd.R_elder' (by (with_reducible repeat (first | apply Kd.R_alloc | apply Kd.R_drewN | apply Kd.R_drew)); exact HO196.out) (Kd.R_base ho46) hb); have n6_ := Aside0.mk (Kd.R_below (by (with_reducible repeat (first | apply Kd.R_alloc | apply Kd.R_drewN | apply Kd.R_drew)); exact HO201.out) hb); have n7_ := Aside0.mk (Kd.R_elder' (by (with_reducible repeat (first | apply Kd.R_alloc | apply Kd.R_drewN | apply Kd.R_drew)); exact HO204.out) (Kd.R_base ho46) hb); have n8_ := Aside0.mk (Kd.S_below (by (with_reducible repeat (first | apply Kd.S_alloc | apply Kd.S_drewN | apply Kd.S_drew)); exact HO209.out) hb); have n9_ := Aside0.mk (Kd.R_elder' (by (with_reducible repeat (first | apply Kd.R_alloc | apply Kd.R_drewN | apply Kd.R_drew)); exact HO212.out) (Kd.R_base ho46) hb); have n10_ := Aside0.mk (Kd.R_elder' (by (with_reducible repeat (first | apply Kd.R_alloc | apply Kd.R_drewN | apply Kd.R_drew)); exact HO216.out) (Kd.R_base ho46) hb); have n11_ := Aside0.mk (Kd.R_lower (Kd.R_new' (Kd.R_new' (Kd.R_new' (Kd.R_new' (Kd.R_new' ho46 (Kd.R_lt (by (with_reducible repeat (first | apply Kd.R_alloc | apply Kd.R_drewN | apply Kd.R_drew)); exact HO185.out))) (Kd.R_lt (by (with_reducible repeat (first | apply Kd.R_alloc | apply Kd.R_drewN | apply Kd.R_drew)); exact HO196.out))) (Kd.R_lt (by (with_reducible repeat (first | apply Kd.R_alloc | apply Kd.R_drewN | apply Kd.R_drew)); exact HO204.out))) (Kd.R_lt (by (with_reducible repeat (first | apply Kd.R_alloc | apply Kd.R_drewN | apply Kd.R_drew)); exact HO212.out))) (Kd.R_lt (by (with_reducible repeat (first | apply Kd.R_alloc | apply Kd.R_drewN | apply Kd.R_drew)); exact HO216.out))) (below_size (by repeat (first | (with_reducible first | exact HB.out | apply below_alloc | apply pw_below_drewN | apply below_drew1) | exact HB.out)))); have n12_ := Aside0.mk (below_step (by repeat (first | (with_reducible first | exact HB.out | apply below_alloc | apply pw_below_drewN | apply below_drew1) | exact HB.out)) hb); clear HO179; clear HO182; clear HO185; clear HO190; clear HO193; clear HO196; clear HO201; clear HO204; clear HO209; clear HO212; clear HO216; clear HB; have HO179 := n0_; have HO182 := n1_; have HO185 := n2_; have HO190 := n3_; have HO193 := n4_; have HO196 := n5_; have HO201 := n6_; have HO204 := n7_; have HO209 := n8_; have HO212 := n9_; have HO216 := n10_; have HO220 := n11_; have HB := n12_; clear n0_ n1_ n2_ n3_ n4_ n5_ n6_ n7_ n8_ n9_ n10_ n11_ n12_; clear hb ho46; obtain ⟨Ao47, co47, eo47⟩ := Kd.R_slice HO204.out; subst eo47; obtain ⟨Ao48, co48, eo48⟩ := Kd.R_slice HO220.out; subst eo48) | (go_at_call 23; (with_reducible refine (kingpinlaw08_ints.calls k _ _ t202 _ _ y218 true _ ?side1 ?side2 ?side3 ?side4 A15.out).mono ?_); (case side1 => repeat (first | exact (Kd.R_reads' HO204.out).2.2 | (with_reducible refine Kd.C_alloc ?_ _) | (with_reducible refine Kd.C_drewN ?_ _) | (with_reducible refine Kd.C_drew ?_))); (case side2 => exact (Kd.R_reads' HO204.out).2.1); (case side3 => repeat (first | exact (Kd.R_reads' HO220.out).2.2 | (with_reducible refine Kd.C_alloc ?_ _) | (with_reducible refine Kd.C_drewN ?_ _) | (with_reducible refine Kd.C_drew ?_))); (case side4 => exact (Kd.R_reads' HO220.out).2.1); rintro e w' ⟨rfl, ⟨nd, rfl⟩⟩; obtain ⟨Ao49, co49, eo49⟩ := Kd.S_slice HO209.out; subst eo49) | (go_at_call 31; (with_reducible refine (league_ProveSchedule.calls 4 _ _ t206 3 true _ ?side1 ?side2 A18.out).mono ?_); (case side1 => repeat (first | exact (Kd.S_reads' HO209.out).2.2 | (with_reducible refine Kd.C_alloc ?_ _) | (with_reducible refine Kd.C_drewN ?_ _) | (with_reducible refine Kd.C_drew ?_))); (case side2 => exact (Kd.S_reads' HO209.out).2.1); rintro e w50 ⟨rfl, hb⟩; have n0_ := Aside0.mk (Kd.R_below (by (with_reducible repeat (first | apply Kd.R_alloc | apply Kd.R_drewN | apply Kd.R_drew)); exact HO179.out) hb); have n1_ := Aside0.mk (Kd.R_below (by (with_reducible repeat (first | apply Kd.R_alloc | apply Kd.R_drewN | apply Kd.R_drew)); exact HO182.out) hb); have n2_ := Aside0.mk (Kd.R_below (by (with_reducible repeat (first | apply Kd.R_alloc | apply Kd.R_drewN | apply Kd.R_drew)); exact HO185.out) hb); have n3_ := Aside0.mk (Kd.R_below (by (with_reducible repeat (first | apply Kd.R_alloc | apply Kd.R_drewN | apply Kd.R_drew)); exact HO190.out) hb); have n4_ := Aside0.mk (Kd.R_below (by (with_reducible repeat (first | apply Kd.R_alloc | apply Kd.R_drewN | apply Kd.R_drew)); exact HO193.out) hb); have n5_ := Aside0.mk (Kd.R_below (by (with_reducible repeat (first | apply Kd.R_alloc | apply Kd.R_drewN | apply Kd.R_drew)); exact HO196.out) hb); have n6_ := Aside0.mk (Kd.R_below (by (with_reducible repeat (first | apply Kd.R_alloc | apply Kd.R_drewN | apply Kd.R_drew)); exact HO201.out) hb); have n7_ := Aside0.mk (Kd.R_below (by (with_reducible repeat (first | apply Kd.R_alloc | apply Kd.R_drewN | apply Kd.R_drew)); exact HO204.out) hb); have n8_ := Aside0.mk (Kd.S_below (by (with_reducible repeat (first | apply Kd.S_alloc | apply Kd.S_drewN | apply Kd.S_drew)); exact HO209.out) hb); have n9_ := Aside0.mk (Kd.R_below (by (with_reducible repeat (first | apply Kd.R_alloc | apply Kd.R_drewN | apply Kd.R_drew)); exact HO212.out) hb); have n10_ := Aside0.mk (Kd.R_below (by (with_reducible repeat (first | apply Kd.R_alloc | apply Kd.R_drewN | apply Kd.R_drew)); exact HO216.out) hb); have n11_ := Aside0.mk (Kd.R_below (by (with_reducible repeat (first | apply Kd.R_alloc | apply Kd.R_drewN | apply Kd.R_drew)); exact HO220.out) hb); have n12_ := Aside0.mk (below_step (by repeat (first | (with_reducible first | exact HB.out | apply below_alloc | apply pw_below_drewN | apply below_drew1) | exact HB.out)) hb); clear HO179; clear HO182; clear HO185; clear HO190; clear HO193; clear HO196; clear HO201; clear HO204; clear HO209; clear HO212; clear HO216; clear HO220; clear HB; have HO179 := n0_; have HO182 := n1_; have HO185 := n2_; have HO190 := n3_; have HO193 := n4_; have HO196 := n5_; have HO201 := n6_; have HO204 := n7_; have HO209 := n8_; have HO212 := n9_; have HO216 := n10_; have HO220 := n11_; have HB := n12_; clear n0_ n1_ n2_ n3_ n4_ n5_ n6_ n7_ n8_ n9_ n10_ n11_ n12_; (try clear hb); (try clear hb2); (try clear hk); (try clear hi)) | (go_at_call 31; (with_reducible refine (league_ProveSchedule.calls 4 _ _ t206 2 t223 _ ?side1 ?side2 A20.out).mono ?_); (case side1 => repeat (first | exact (Kd.S_reads' HO209.out).2.2 | (with_reducible refine Kd.C_alloc ?_ _) | (with_reducible refine Kd.C_drewN ?_ _) | (with_reducible refine Kd.C_drew ?_))); (case side2 => exact (Kd.S_reads' HO209.out).2.1); rintro e w51 ⟨rfl, hb⟩; have n0_ := Aside0.mk (Kd.R_below (by (with_reducible repeat (first | apply Kd.R_alloc | apply Kd.R_drewN | apply Kd.R_drew)); exact HO179.out) hb); have n1_ := Aside0.mk (Kd.R_below (by (with_reducible repeat (first | apply Kd.R_alloc | apply Kd.R_drewN | apply Kd.R_drew)); exact HO182.out) hb); have n2_ := Aside0.mk (Kd.R_below (by (with_reducible repeat (first | apply Kd.R_alloc | apply Kd.R_drewN | apply Kd.R_drew)); exact HO185.out) hb); have n3_ := Aside0.mk (Kd.R_below (by (with_reducible repeat (first | apply Kd.R_alloc | apply Kd.R_drewN | apply Kd.R_drew)); exact HO190.out) hb); have n4_ := Aside0.mk (Kd.R_below (by (with_reducible repeat (first | apply Kd.R_alloc | apply Kd.R_drewN | apply Kd.R_drew)); exact HO193.out) hb); have n5_ := Aside0.mk (Kd.R_below (by (with_reducible repeat (first | apply Kd.R_alloc | apply Kd.R_drewN | apply Kd.R_drew)); exact HO196.out) hb); have n6_ := Aside0.mk (Kd.R_below (by (with_reducible repeat (first | apply Kd.R_alloc | apply Kd.R_drewN | apply Kd.R_drew)); exact HO201.out) hb); have n7_ := Aside0.mk (Kd.R_below (by (with_reducible repeat (first | apply Kd.R_alloc | apply Kd.R_drewN | apply Kd.R_drew)); exact HO204.out) hb); have n8_ := Aside0.mk (Kd.S_below (by (with_reducible repeat (first | apply Kd.S_alloc | apply Kd.S_drewN | apply Kd.S_drew)); exact HO209.out) hb); have n9_ := Aside0.mk (Kd.R_below (by (with_reducible repeat (first | apply Kd.R_alloc | apply Kd.R_drewN | apply Kd.R_drew)); exact HO212.out) hb); have n10_ := Aside0.mk (Kd.R_below (by (with_reducible repeat (first | apply Kd.R_alloc | apply Kd.R_drewN | apply Kd.R_drew)); exact HO216.out) hb); have n11_ := Aside0.mk (Kd.R_below (by (with_reducible repeat (first | apply Kd.R_alloc | apply Kd.R_drewN | apply Kd.R_drew)); exact HO220.out) hb); have n12_ := Aside0.mk (below_step (by repeat (first | (with_reducible first | exact HB.out | apply below_alloc | apply pw_below_drewN | apply below_drew1) | exact HB.out)) hb); clear HO179; clear HO182; clear HO185; clear HO190; clear HO193; clear HO196; clear HO201; clear HO204; clear HO209; clear HO212; clear HO216; clear HO220; clear HB; have HO179 := n0_; have HO182 := n1_; have HO185 := n2_; have HO190 := n3_; have HO193 := n4_; have HO196 := n5_; have HO201 := n6_; have HO204 := n7_; have HO209 := n8_; have HO212 := n9_; have HO216 := n10_; have HO220 := n11_; have HB := n12_; clear n0_ n1_ n2_ n3_ n4_ n5_ n6_ n7_ n8_ n9_ n10_ n11_ n12_; (try clear hb); (try clear hb2); (try clear hk); (try clear hi)))
         go_ret
         exact ⟨by first | rfl | (simp [errW_none, errW_some] <;> rfl) | (simp [*, errW_none, errW_some] <;> rfl), by repeat (first | (with_reducible first | exact HB.out | apply below_alloc | apply pw_below_drewN | apply below_drew1) | exact HB.out)⟩
        ·
         rw [if_neg c19] at H
         exact absurd (H.trans (congrArg some hr)) (by simp)
       ·
        rw [if_neg c17] at H
        exact absurd (H.trans (congrArg some hr)) (by simp)
      ·
       rw [if_neg c16] at H
       exact absurd (H.trans (congrArg some hr)) (by simp)
     ·
      rw [if_neg c14] at H
      exact absurd (H.trans (congrArg some hr)) (by simp)
    ·
     rw [if_neg c13] at H
     exact absurd (H.trans (congrArg some hr)) (by simp)
   ·
    rw [if_neg c11] at H
    exact absurd (H.trans (congrArg some hr)) (by simp)
  ·
   rw [if_neg c10] at H
   exact absurd (H.trans (congrArg some hr)) (by simp)
 ·
  rw [if_neg c8] at H
  exact absurd (H.trans (congrArg some hr)) (by simp)
set_option maxRecDepth 100000 in
theorem awake_40 : awakeF 40 = some true := by kernel_rfl
def kingpinlaw08_awake.f : Option Bool := some true
theorem kingpinlaw08_awake.calls (r : Bool) (w : World) (h : kingpinlaw08_awake.f = some r) : Calls Try.prog 16 #[] w fun e w' => e = .returned (.bool r) ∧ Below w.heap.size w w' := by
 obtain rfl := Option.some.inj h
 exact awake_calls 40 true w rfl awake_40
end Go.Proofs.Ytmnamkcjldaoeaa.PAll
namespace Go.Proofs.Ytmnamkcjldaoeaa.PAll
open Go.RowKit Go.Proofs.YtmnamkcjldaoeaaW.PrintWords Go.Proofs.YtmnamkcjldaoeaaW.PrintLast Go.Proofs.YtmnamkcjldaoeaaW.PrintMore
set_option linter.unusedVariables false
set_option linter.unusedSimpArgs false
theorem awake_ev : Ev (fun _ => kingpinlaw08_awake.f) true := Ev.now true
theorem wrapN (n : Nat) (h : n < 4611686018427387904) : wrap64 ((n : Int) + 1) = ((n + 1 : Nat) : Int) := by
 rw [IntWalk.wrap64_in _ ⟨by omega, by omega⟩]
 omega
theorem dropI (l : List Int) (i : Nat) (h : i < l.length) : l.drop i = rd l (i : Int) :: l.drop (i + 1) := by
 rw [List.drop_eq_getElem_cons h]
 congr 1
 unfold rd
 rw [Int.toNat_natCast, List.getD_eq_getElem?_getD, List.getElem?_eq_getElem h, Option.getD_some]
theorem League_ev (a : Int) (l : List S70) (hl : l.length ≤ 1000) : Ev (fun k => kingpinlaw08_League.f k a l) (a, l.map toG) := by
 have main : ∀ (d i : Nat) (acc : List S85), l.length - i = d → i ≤ l.length → acc.length = i → Ev (fun k => kingpinlaw08_League.l0 k (i : Int) a l a acc) (a, acc ++ (l.drop i).map toG) := by
  intro d
  induction d with
  | zero =>
   intro i acc hd hi ha
   obtain rfl : i = l.length := by omega
   refine Ev.step (f := fun _ => some (a, acc)) (fun k => ?_) ?_
   ·
    simp only [kingpinlaw08_League.l0]
    rw [if_neg (by omega)]
   ·
    simpa using Ev.now (a, acc)
  | succ d ih =>
   intro i acc hd hi ha
   refine Ev.step (f := fun k => kingpinlaw08_League.l0 k ((i + 1 : Nat) : Int) a l a (acc ++ [toG (rd_T70 l (i : Int))])) (fun k => ?_) ?_
   ·
    simp only [kingpinlaw08_League.l0]
    rw [if_pos (by omega), if_pos (by omega), if_pos (by omega), wrapN i (by omega)]
    rfl
   ·
    have := ih (i + 1) (acc ++ [toG (rd_T70 l (i : Int))]) (by omega) (by omega) (by simp [ha])
    rw [drop70 l i (by omega), List.map_cons]
    simpa using this
 have := main l.length 0 [] rfl (Nat.zero_le _) rfl
 rw [List.nil_append, List.drop_zero] at this
 exact this
theorem listed_ev (l : List Int) (m : Int) (hl : l.length ≤ 1000000) : Ev (fun k => kingpinlaw08_listed.f k l m) (l.all fun x => decide (1 ≤ x) && decide (x ≤ m)) := by
 have main : ∀ (d i : Nat), l.length - i = d → i ≤ l.length → Ev (fun k => kingpinlaw08_listed.l0 k l m (i : Int)) ((l.drop i).all fun x => decide (1 ≤ x) && decide (x ≤ m)) := by
  intro d
  induction d with
  | zero =>
   intro i hd hi
   obtain rfl : i = l.length := by omega
   refine Ev.step (f := fun _ => some true) (fun k => ?_) ?_
   ·
    simp only [kingpinlaw08_listed.l0]
    rw [if_neg (by omega)]
   ·
    simpa using Ev.now true
  | succ d ih =>
   intro i hd hi
   have ih1 := ih (i + 1) (by omega) (by omega)
   rw [dropI l i (by omega), List.all_cons]
   obtain ⟨x, hx⟩ : ∃ x, rd l (i : Int) = x := ⟨_, rfl⟩
   rw [hx]
   have hbody : ∀ k, kingpinlaw08_listed.l0 (k + 1) l m (i : Int) = if 1 ≤ x ∧ x ≤ m then kingpinlaw08_listed.l0 k l m ((i + 1 : Nat) : Int) else some false := by
    intro k
    simp only [kingpinlaw08_listed.l0]
    rw [if_pos (by omega), if_pos (by omega), wrapN i (by omega), hx]
    by_cases c1 : x < 1
    ·
     rw [if_pos c1, if_neg (by omega)]
    ·
     by_cases c2 : x > m
     ·
      rw [if_neg c1, if_pos c2, if_neg (by omega)]
     ·
      rw [if_neg c1, if_neg c2, if_pos (by omega)]
   refine Ev.step hbody ?_
   by_cases hg : 1 ≤ x ∧ x ≤ m
   ·
    simp only [hg, and_self, if_true, decide_true, Bool.true_and]
    exact ih1
   ·
    have : (decide (1 ≤ x) && decide (x ≤ m)) = false := by simpa using hg
    simp only [hg, if_false, this, Bool.false_and]
    exact Ev.now _
 have := main l.length 0 rfl (Nat.zero_le _)
 exact this
theorem Has_ev (g : List Int) (v : Int) (hl : g.length ≤ 1000000) : Ev (fun k => kingpinref08_Has.f k g v) (g.contains v) := by
 have main : ∀ (d i : Nat), g.length - i = d → i ≤ g.length → Ev (fun k => kingpinref08_Has.l0 k g v (i : Int)) ((g.drop i).contains v) := by
  intro d
  induction d with
  | zero =>
   intro i hd hi
   obtain rfl : i = g.length := by omega
   refine Ev.step (f := fun _ => some false) (fun k => ?_) ?_
   ·
    simp only [kingpinref08_Has.l0]
    rw [if_neg (by omega)]
   ·
    simpa using Ev.now false
  | succ d ih =>
   intro i hd hi
   have ih1 := ih (i + 1) (by omega) (by omega)
   rw [dropI g i (by omega), List.contains_cons]
   obtain ⟨x, hx⟩ : ∃ x, rd g (i : Int) = x := ⟨_, rfl⟩
   rw [hx]
   have hbody : ∀ k, kingpinref08_Has.l0 (k + 1) g v (i : Int) = if x = v then some true else kingpinref08_Has.l0 k g v ((i + 1 : Nat) : Int) := by
    intro k
    simp only [kingpinref08_Has.l0]
    rw [if_pos (by omega), if_pos (by omega), wrapN i (by omega), hx]
   refine Ev.step hbody ?_
   by_cases hg : x = v
   ·
    subst hg
    simp only [if_true, beq_self_eq_true, Bool.true_or]
    exact Ev.now _
   ·
    have : (v == x) = false := by simpa using fun e => hg e.symm
    simp only [hg, if_false, this, Bool.false_or]
    exact ih1
 have := main g.length 0 rfl (Nat.zero_le _)
 exact this
theorem Gives_eq (x : S70) : kingpinref08_Gives.f x.f0 x.f1 x.f2 x.f3 x.f4 = some (givesF (toG x)) := by
 unfold kingpinref08_Gives.f givesF toG
 split
 ·
  rfl
 ·
  split
  ·
   rfl
  ·
   split <;> rfl
def stepN (f : Nat) (t : Int) (group : List Int) (s : Int) (g : S85) : Int := (sidesG t g).foldl (fun s p => wrap64 (s + ruleVal f p.2 group)) s
theorem numF_step (f : Nat) (t : Int) (l : List S85) (group : List Int) : numF f (sidesOf t l) group = l.foldl (stepN f t group) 0 := by
 unfold numF sidesOf
 rw [List.foldl_flatMap]
 rfl
theorem wrap_range (n : Int) : -9223372036854775808 ≤ wrap64 n ∧ wrap64 n ≤ 9223372036854775807 := by
 unfold wrap64
 omega
theorem sidesG_of (t : Int) (g : S85) (h : g.f0 ≠ g.f1) : sidesG t g = if g.f1 = t then [(g, ⟨g.f0, (givesF g).2, g.f3⟩)] else if g.f0 = t then [(g, ⟨g.f1, (givesF g).1, g.f2⟩)] else [] := by
 unfold sidesG
 by_cases h1 : g.f1 = t
 ·
  rw [if_pos h1, if_pos h1, if_neg (fun h0 => h (h0.trans h1.symm))]
  rfl
 ·
  rw [if_neg h1, if_neg h1, List.append_nil]
def inR (s : Int) : Prop := -9223372036854775808 ≤ s ∧ s ≤ 9223372036854775807
theorem Number_ev (a : Int) (l : List S70) (code t : Int) (group : List Int) (hc : 1 ≤ code ∧ code ≤ 4) (hl : l.length ≤ 1000) (hg : group.length ≤ 1000000) (hok : ∀ x ∈ l, x.f0 ≠ x.f1) :
  Ev (fun k => kingpinref08_Number.f k a l code t group) (numF (ruleFn code) (sidesOf t (l.map toG)) group) := by
 rw [numF_step]
 have main : ∀ (d i : Nat) (s : Int), l.length - i = d → i ≤ l.length → inR s → Ev (fun k => kingpinref08_Number.l0 k code t group s (i : Int) a l) (((l.drop i).map toG).foldl (stepN (ruleFn code) t group) s) := by
  intro d
  induction d with
  | zero =>
   intro i s hd hi hs
   obtain rfl : i = l.length := by omega
   refine Ev.step (f := fun _ => some s) (fun k => ?_) ?_
   ·
    simp only [kingpinref08_Number.l0]
    rw [if_neg (by omega)]
   ·
    simpa using Ev.now s
  | succ d ih =>
   intro i s hd hi hs
   have ih1 := fun s hs => ih (i + 1) s (by omega) (by omega) hs
   have hm : rd_T70 l (i : Int) ∈ l := by
    have := drop70 l i (by omega)
    exact List.mem_of_mem_drop (i := i) (by rw [this]; exact List.mem_cons_self)
   have hxo := hok _ hm
   rw [drop70 l i (by omega), List.map_cons, List.foldl_cons]
   obtain ⟨x, hx⟩ : ∃ x, rd_T70 l (i : Int) = x := ⟨_, rfl⟩
   rw [hx] at hxo ⊢
   have hbody : ∀ k, kingpinref08_Number.l0 (k + 1) code t group s (i : Int) a l =
     if x.f1 = t then kingpinref08_Number.j1 k code t group s (i : Int) (givesF (toG x)).2 x.f3 x.f0 a l else if x.f0 = t then kingpinref08_Number.j1 k code t group s (i : Int) (givesF (toG x)).1 x.f2 x.f1 a l else kingpinref08_Number.l0 k code t group s ((i + 1 : Nat) : Int) a l := by
    intro k
    simp only [kingpinref08_Number.l0]
    rw [if_pos (by omega), if_pos (by omega), wrapN i (by omega), hx, Gives_eq, Option.bind_some]
   have hj : ∀ (o p q : Int) (y : SideT), y = ⟨q, o, p⟩ → Ev (fun k => kingpinref08_Number.j1 k code t group s (i : Int) o p q a l) (((l.drop (i + 1)).map toG).foldl (stepN (ruleFn code) t group) (wrap64 (s + ruleVal (ruleFn code) y group))) := by
    intro o p q y hy
    subst hy
    have hc4 : code = 1 ∨ code = 2 ∨ code = 3 ∨ code = 4 := by omega
    rcases hc4 with rfl | rfl | rfl | rfl
    ·
     refine Ev.step (fun k => ?_) (ih1 (wrap64 (s + o)) (wrap_range _))
     simp only [kingpinref08_Number.j1]
     rw [if_pos trivial, wrapN i (by omega)]
    ·
     refine Ev.step (fun k => ?_) (ih1 (wrap64 (s + wrap64 (Int.tdiv o 2))) (wrap_range _))
     simp only [kingpinref08_Number.j1]
     rw [if_neg (by decide), if_pos trivial, wrapN i (by omega)]
    ·
     refine Ev.step (f := fun k => (kingpinref08_Has.f k group q).bind fun b => if b = true then kingpinref08_Number.l0 k 3 t group (wrap64 (s + o)) ((i + 1 : Nat) : Int) a l else kingpinref08_Number.l0 k 3 t group s ((i + 1 : Nat) : Int) a l) (fun k => ?_) ?_
     ·
      simp only [kingpinref08_Number.j1]
      rw [if_neg (by decide), if_neg (by decide), if_pos trivial, wrapN i (by omega)]
     ·
      refine Ev.bind (Has_ev group q hg) ?_
      rw [show ruleVal (ruleFn 3) ⟨q, o, p⟩ group = if group.contains q = true then o else 0 from rfl]
      cases hb : group.contains q with
      | true => exact ih1 (wrap64 (s + o)) (wrap_range _)
      | false =>
       have hs0 : wrap64 (s + 0) = s := by rw [Int.add_zero]; exact IntWalk.wrap64_in _ hs
       rw [if_neg (by decide), hs0]
       exact ih1 s hs
    ·
     refine Ev.step (fun k => ?_) (ih1 (wrap64 (s + p)) (wrap_range _))
     simp only [kingpinref08_Number.j1]
     rw [if_neg (by decide), if_neg (by decide), if_neg (by decide), if_pos trivial, wrapN i (by omega)]
   refine Ev.step hbody ?_
   have hst : stepN (ruleFn code) t group s (toG x) = if x.f1 = t then wrap64 (s + ruleVal (ruleFn code) ⟨x.f0, (givesF (toG x)).2, x.f3⟩ group) else if x.f0 = t then wrap64 (s + ruleVal (ruleFn code) ⟨x.f1, (givesF (toG x)).1, x.f2⟩ group) else s := by
    unfold stepN
    rw [sidesG_of t (toG x) hxo]
    show List.foldl _ s (if x.f1 = t then _ else if x.f0 = t then _ else _) = _
    split
    ·
     rfl
    ·
     split <;> rfl
   rw [hst]
   by_cases c1 : x.f1 = t
   ·
    simp only [if_pos c1]
    exact hj _ _ _ _ rfl
   ·
    by_cases c0 : x.f0 = t
    ·
     simp only [if_neg c1, if_pos c0]
     exact hj _ _ _ _ rfl
    ·
     simp only [if_neg c1, if_neg c0]
     exact ih1 s hs
 have := main l.length 0 0 rfl (Nat.zero_le _) ⟨by decide, by decide⟩
 rw [List.drop_zero] at this
 exact this
theorem gives_range (g : S85) : (givesF g).1 ∈ ([0, 1, 2] : List Int) ∧ (givesF g).2 ∈ ([0, 1, 2] : List Int) := by
 unfold givesF
 split
 ·
  simp
 ·
  split
  ·
   simp
  ·
   split <;> simp
theorem ruleVal_range (f : Nat) (g : S85) (n : Int) (hg : gameB n g = true) (q o p : Int) (h : (o = (givesF g).1 ∧ p = g.f2) ∨ (o = (givesF g).2 ∧ p = g.f3)) (group : List Int) : 0 ≤ ruleVal f ⟨q, o, p⟩ group ∧ ruleVal f ⟨q, o, p⟩ group ≤ 3000 := by
 have ho : o = 0 ∨ o = 1 ∨ o = 2 := by
  have := gives_range g
  simp only [List.mem_cons, List.not_mem_nil, or_false] at this
  rcases h with ⟨rfl, _⟩ | ⟨rfl, _⟩
  ·
   exact this.1
  ·
   exact this.2
 have hp : 0 ≤ p ∧ p ≤ 3000 := by
  have := (gameB_iff n g).1 hg
  rcases h with ⟨_, rfl⟩ | ⟨_, rfl⟩
  ·
   exact this.1
  ·
   exact this.2.1
 unfold ruleVal
 split
 ·
  show 0 ≤ o ∧ o ≤ 3000
  omega
 ·
  split
  ·
   show 0 ≤ wrap64 (Int.tdiv o 2) ∧ wrap64 (Int.tdiv o 2) ≤ 3000
   rcases ho with rfl | rfl | rfl <;> (unfold wrap64; decide)
  ·
   split
   ·
    split
    ·
     show 0 ≤ o ∧ o ≤ 3000
     omega
    ·
     omega
   ·
    exact hp
theorem stepN_bound (f : Nat) (t n : Int) (group : List Int) (g : S85) (hg : gameB n g = true) (s B : Int) (h0 : 0 ≤ s) (hB : s ≤ B) (hB2 : B ≤ 1000000000) : 0 ≤ stepN f t group s g ∧ stepN f t group s g ≤ B + 3000 := by
 have hne := ((gameB_iff n g).1 hg).2.2.2.2.1
 unfold stepN
 rw [sidesG_of t g hne]
 split
 ·
  have := ruleVal_range f g n hg g.f0 _ _ (.inr ⟨rfl, rfl⟩) group
  show 0 ≤ wrap64 (s + ruleVal f ⟨g.f0, (givesF g).2, g.f3⟩ group) ∧ wrap64 (s + ruleVal f ⟨g.f0, (givesF g).2, g.f3⟩ group) ≤ B + 3000
  rw [IntWalk.wrap64_in _ ⟨by omega, by omega⟩]
  omega
 ·
  split
  ·
   have := ruleVal_range f g n hg g.f1 _ _ (.inl ⟨rfl, rfl⟩) group
   show 0 ≤ wrap64 (s + ruleVal f ⟨g.f1, (givesF g).1, g.f2⟩ group) ∧ wrap64 (s + ruleVal f ⟨g.f1, (givesF g).1, g.f2⟩ group) ≤ B + 3000
   rw [IntWalk.wrap64_in _ ⟨by omega, by omega⟩]
   omega
  ·
   show 0 ≤ s ∧ s ≤ B + 3000
   omega
theorem numF_bound (f : Nat) (t n : Int) (group : List Int) (l : List S85) (hl : l.length ≤ 20) (hg : ∀ g ∈ l, gameB n g = true) : 0 ≤ numF f (sidesOf t l) group ∧ numF f (sidesOf t l) group ≤ 60000 := by
 rw [numF_step]
 have main : ∀ (l : List S85) (s B : Int), (∀ g ∈ l, gameB n g = true) → 0 ≤ s → s ≤ B → B + 3000 * l.length ≤ 1000000000 → 0 ≤ l.foldl (stepN f t group) s ∧ l.foldl (stepN f t group) s ≤ B + 3000 * l.length := by
  intro l
  induction l with
  | nil => intro s B _ h0 hB _; simpa using ⟨h0, hB⟩
  | cons g l ih =>
   intro s B hg h0 hB hb2
   rw [List.length_cons] at hb2 ⊢
   obtain ⟨h1, h2⟩ := stepN_bound f t n group g (hg g List.mem_cons_self) s B h0 hB (by omega)
   obtain ⟨h3, h4⟩ := ih _ (B + 3000) (fun x hx => hg x (List.mem_cons_of_mem _ hx)) h1 h2 (by push_cast at hb2; omega)
   rw [List.foldl_cons]
   refine ⟨h3, ?_⟩
   push_cast
   omega
 have := main l 0 0 hg (by decide) (by decide) (by omega)
 omega
end Go.Proofs.Ytmnamkcjldaoeaa.PAll
namespace Go.Proofs.Ytmnamkcjldaoeaa.PAll
open Go.RowKit Go.Proofs.YtmnamkcjldaoeaaW.PrintWords Go.Proofs.YtmnamkcjldaoeaaW.PrintLast Go.Proofs.YtmnamkcjldaoeaaW.PrintMore
set_option linter.unusedVariables false
set_option linter.unusedSimpArgs false
set_option linter.unusedSectionVars false
theorem greatest_two (a b : Int) : league_greatest.f [a, b] = some (mx a b) := rfl
def bestOf (num : Int → Int) (rest : List Int) (b : Int) : Int := rest.foldl (fun b x => mx b (num x)) b
theorem mx_le (a b : Int) : a ≤ mx a b ∧ b ≤ mx a b ∧ (mx a b = a ∨ mx a b = b) := by
 unfold mx
 split <;> omega
theorem bestOf_spec (num : Int → Int) : ∀ (rest : List Int) (b : Int), b ≤ bestOf num rest b ∧ (∀ x ∈ rest, num x ≤ bestOf num rest b) ∧ (bestOf num rest b = b ∨ ∃ x ∈ rest, num x = bestOf num rest b)
 | [], b => ⟨Int.le_refl _, by simp, .inl rfl⟩
 | y :: rest, b => by
  obtain ⟨h1, h2, h3⟩ := bestOf_spec num rest (mx b (num y))
  obtain ⟨m1, m2, m3⟩ := mx_le b (num y)
  have he : bestOf num (y :: rest) b = bestOf num rest (mx b (num y)) := rfl
  rw [he]
  refine ⟨by omega, ?_, ?_⟩
  ·
   intro x hx
   rcases List.mem_cons.1 hx with rfl | hx
   ·
    omega
   ·
    exact h2 x hx
  ·
   rcases h3 with h3 | ⟨x, hx, h3⟩
   ·
    rcases m3 with m3 | m3
    ·
     exact .inl (h3.trans m3)
    ·
     exact .inr ⟨y, List.mem_cons_self, by rw [h3, m3]⟩
   ·
    exact .inr ⟨x, List.mem_cons_of_mem _ hx, h3⟩
def fallP (num : Int → Int) : Nat → List Int → List (List Int)
 | 0, _ => []
 | d + 1, rest => if rest = [] then [] else rest.filter (fun x => decide (num x = bestOf num rest (-1))) :: fallP num d (rest.filter (fun x => !decide (num x = bestOf num rest (-1))))
theorem fallP_nil (num : Int → Int) (d : Nat) : fallP num d [] = [] := by cases d <;> simp [fallP]
theorem filter_short (num : Int → Int) (rest : List Int) (hn : rest ≠ []) (h0 : ∀ x, 0 ≤ num x) :
  (rest.filter (fun x => !decide (num x = bestOf num rest (-1)))).length < rest.length ∧ rest.filter (fun x => decide (num x = bestOf num rest (-1))) ≠ [] ∧ 0 ≤ bestOf num rest (-1) := by
 obtain ⟨h1, h2, h3⟩ := bestOf_spec num rest (-1)
 obtain ⟨y, hy⟩ := List.exists_mem_of_ne_nil rest hn
 have hb : 0 ≤ bestOf num rest (-1) := Int.le_trans (h0 y) (h2 y hy)
 rcases h3 with h3 | ⟨x, hx, h3⟩
 ·
  omega
 ·
  refine ⟨?_, ?_, hb⟩
  ·
   refine List.length_filter_lt_length_iff_exists.2 ⟨x, hx, by simp [h3]⟩
  ·
   exact List.ne_nil_of_mem (List.mem_filter.2 ⟨hx, by simp [h3]⟩)
section
variable (num : Int → Int) (a : Int) (l : List S85) (code : Int) (group : List Int)
theorem fall_l1 (hnum : ∀ x, league_table_number.f a l code x group = some (num x)) (out : List (List Int)) (rest : List Int) (hr : rest.length ≤ 1000) (R : List (List Int)) : ∀ (d i : Nat) (b : Int), rest.length - i = d → i ≤ rest.length →
  Ev (fun k => league_table_fall.l2 k group out (bestOf num (rest.drop i) b) [] [] rest (rest.length : Int) 0 a l code) R → Ev (fun k => league_table_fall.l1 k group out rest b rest (rest.length : Int) (i : Int) a l code) R := by
 intro d
 induction d with
 | zero =>
  intro i b hd hi H
  obtain rfl : i = rest.length := by omega
  rw [List.drop_length] at H
  refine Ev.step (fun k => ?_) H
  simp only [league_table_fall.l1]
  rw [if_neg (by omega)]
  rfl
 | succ d ih =>
  intro i b hd hi H
  rw [dropI rest i (by omega)] at H
  refine Ev.step (fun k => ?_) (ih (i + 1) (mx b (num (rd rest (i : Int)))) (by omega) (by omega) H)
  simp only [league_table_fall.l1]
  rw [if_pos (by omega), if_pos (by omega), if_pos (by omega), hnum, Option.bind_some, greatest_two, Option.bind_some, wrapN i (by omega)]
theorem fall_l2 (hnum : ∀ x, league_table_number.f a l code x group = some (num x)) (out : List (List Int)) (ho : out.length ≤ 1000) (b : Int) (rest : List Int) (hr : rest.length ≤ 1000) (R : List (List Int)) : ∀ (d i : Nat) (p q : List Int), rest.length - i = d → i ≤ rest.length → p.length ≤ i → q.length ≤ i →
  Ev (fun k => league_table_fall.l0 k group (out ++ [p ++ (rest.drop i).filter (fun x => decide (num x = b))]) (q ++ (rest.drop i).filter (fun x => !decide (num x = b))) a l code) R →
  Ev (fun k => league_table_fall.l2 k group out b p q rest (rest.length : Int) (i : Int) a l code) R := by
 intro d
 induction d with
 | zero =>
  intro i p q hd hi hp hq H
  obtain rfl : i = rest.length := by omega
  rw [List.drop_length] at H
  simp only [List.filter_nil, List.append_nil] at H
  refine Ev.step (fun k => ?_) H
  simp only [league_table_fall.l2]
  rw [if_neg (by omega), if_pos (by omega)]
 | succ d ih =>
  intro i p q hd hi hp hq H
  rw [dropI rest i (by omega)] at H
  by_cases hx : num (rd rest (i : Int)) = b
  ·
   rw [List.filter_cons_of_pos (by simpa using hx), List.filter_cons_of_neg (by simpa using hx)] at H
   refine Ev.step (fun k => ?_) (ih (i + 1) (p ++ [rd rest (i : Int)]) q (by omega) (by omega) (by simp; omega) (by omega) (by simpa using H))
   simp only [league_table_fall.l2]
   rw [if_pos (by omega), if_pos (by omega), if_pos (by omega), hnum, Option.bind_some, if_pos hx, if_pos (by omega), wrapN i (by omega)]
  ·
   rw [List.filter_cons_of_neg (by simpa using hx), List.filter_cons_of_pos (by simpa using hx)] at H
   refine Ev.step (fun k => ?_) (ih (i + 1) p (q ++ [rd rest (i : Int)]) (by omega) (by omega) (by omega) (by simp; omega) (by simpa using H))
   simp only [league_table_fall.l2]
   rw [if_pos (by omega), if_pos (by omega), if_pos (by omega), hnum, Option.bind_some, if_neg hx, if_pos (by omega), wrapN i (by omega)]
theorem fall_l0 (hnum : ∀ x, league_table_number.f a l code x group = some (num x)) (h0 : ∀ x, 0 ≤ num x) : ∀ (d : Nat) (rest : List Int) (out : List (List Int)), rest.length ≤ d → out.length + d ≤ 1000 →
  Ev (fun k => league_table_fall.l0 k group out rest a l code) (out ++ fallP num d rest) := by
 intro d
 induction d with
 | zero =>
  intro rest out hr ho
  obtain rfl := List.eq_nil_of_length_eq_zero (by omega : rest.length = 0)
  rw [fallP_nil, List.append_nil]
  refine Ev.step (f := fun _ => some out) (fun k => ?_) (Ev.now _)
  simp only [league_table_fall.l0]
  rw [if_neg (by simp)]
 | succ d ih =>
  intro rest out hr ho
  by_cases hn : rest = []
  ·
   subst hn
   rw [fallP_nil, List.append_nil]
   refine Ev.step (f := fun _ => some out) (fun k => ?_) (Ev.now _)
   simp only [league_table_fall.l0]
   rw [if_neg (by simp)]
  ·
   obtain ⟨s1, s2, s3⟩ := filter_short num rest hn h0
   have hl : 0 < rest.length := List.length_pos_iff.2 hn
   refine Ev.step (f := fun k => league_table_fall.l1 k group out rest (-1) rest (rest.length : Int) 0 a l code) (fun k => ?_) ?_
   ·
    simp only [league_table_fall.l0]
    rw [if_pos (by omega)]
   ·
    refine fall_l1 num a l code group hnum out rest (by omega) _ rest.length 0 (-1) rfl (Nat.zero_le _) ?_
    rw [List.drop_zero]
    refine fall_l2 num a l code group hnum out (by omega) _ rest (by omega) _ rest.length 0 [] [] rfl (Nat.zero_le _) (Nat.zero_le _) (Nat.zero_le _) ?_
    rw [List.drop_zero, List.nil_append, List.nil_append]
    have := ih (rest.filter (fun x => !decide (num x = bestOf num rest (-1)))) (out ++ [rest.filter (fun x => decide (num x = bestOf num rest (-1)))]) (by omega) (by simp; omega)
    have he : fallP num (d + 1) rest = rest.filter (fun x => decide (num x = bestOf num rest (-1))) :: fallP num d (rest.filter (fun x => !decide (num x = bestOf num rest (-1)))) := by
     rw [fallP, if_neg hn]
    rw [he]
    simpa using this
end
theorem fall_ev (num : Int → Int) (a : Int) (l : List S85) (code : Int) (group : List Int) (hg : group.length ≤ 100) (hnum : ∀ x, league_table_number.f a l code x group = some (num x)) (h0 : ∀ x, 0 ≤ num x) :
  Ev (fun k => league_table_fall.f k a l code group) (fallP num group.length group) := by
 unfold league_table_fall.f slices_Clone_int_int.f
 rw [if_pos (by omega)]
 have := fall_l0 num a l code group hnum h0 group.length group [] (Nat.le_refl _) (by simp; omega)
 rw [List.nil_append] at this
 exact this
section
variable (num : Int → Int) (a : Int) (l : List S70) (code : Int) (group : List Int)
end
theorem filter_split {α : Type} (p : α → Bool) : ∀ (l : List α), (l.filter p).length + (l.filter (fun x => !p x)).length = l.length
 | [] => rfl
 | x :: l => by
  have := filter_split p l
  cases h : p x <;> simp [List.filter_cons, h] <;> omega
theorem mem_sum : ∀ (gs : List (List Int)) (g : List Int), g ∈ gs → g.length ≤ (gs.map List.length).sum
 | x :: gs, g, h => by
  rw [List.map_cons, List.sum_cons]
  rcases List.mem_cons.1 h with rfl | h
  ·
   omega
  ·
   have := mem_sum gs g h
   omega
theorem take_sum : ∀ (gs : List (List Int)) (i : Nat), ((gs.take i).map List.length).sum ≤ (gs.map List.length).sum
 | [], i => by simp
 | g :: gs, 0 => by simp
 | g :: gs, i + 1 => by
  rw [List.take_succ_cons, List.map_cons, List.map_cons, List.sum_cons, List.sum_cons]
  have := take_sum gs i
  omega
theorem fallP_inv (num : Int → Int) (h0 : ∀ x, 0 ≤ num x) : ∀ (d : Nat) (rest : List Int), ((fallP num d rest).map List.length).sum ≤ rest.length ∧ ∀ g ∈ fallP num d rest, g ≠ [] ∧ ∀ x ∈ g, x ∈ rest
 | 0, rest => by simp [fallP]
 | d + 1, rest => by
  by_cases hn : rest = []
  ·
   subst hn
   rw [fallP_nil]
   simp
  ·
   obtain ⟨s1, s2, s3⟩ := filter_short num rest hn h0
   rw [fallP, if_neg hn]
   obtain ⟨i1, i2⟩ := fallP_inv num h0 d (rest.filter (fun x => !decide (num x = bestOf num rest (-1))))
   have hs : (rest.filter (fun x => decide (num x = bestOf num rest (-1)))).length + (rest.filter (fun x => !decide (num x = bestOf num rest (-1)))).length = rest.length := by
    exact filter_split _ rest
   refine ⟨?_, ?_⟩
   ·
    rw [List.map_cons, List.sum_cons]
    omega
   ·
    intro g hg
    rcases List.mem_cons.1 hg with rfl | hg
    ·
     exact ⟨s2, fun x hx => (List.mem_filter.1 hx).1⟩
    ·
     exact ⟨(i2 g hg).1, fun x hx => (List.mem_filter.1 ((i2 g hg).2 x hx)).1⟩
def okGroups (n : Int) (gs : List (List Int)) : Prop := (gs.map List.length).sum ≤ 6 ∧ ∀ g ∈ gs, g ≠ [] ∧ ∀ x ∈ g, 0 ≤ x ∧ x < n
theorem sum_ge_len : ∀ (gs : List (List Int)), (∀ g ∈ gs, g ≠ []) → gs.length ≤ (gs.map List.length).sum
 | [], _ => Nat.zero_le _
 | g :: gs, h => by
  rw [List.length_cons, List.map_cons, List.sum_cons]
  have := sum_ge_len gs (fun x hx => h x (List.mem_cons_of_mem _ hx))
  have := List.length_pos_iff.2 (h g List.mem_cons_self)
  omega
theorem okGroups_len {n : Int} {gs : List (List Int)} (h : okGroups n gs) : gs.length ≤ 6 ∧ ∀ g ∈ gs, g.length ≤ 6 := by
 refine ⟨Nat.le_trans (sum_ge_len gs fun g hg => (h.2 g hg).1) h.1, fun g hg => ?_⟩
 have : g.length ≤ (gs.map List.length).sum := by
  exact mem_sum gs g hg
 exact Nat.le_trans this h.1
def fallAll (num : List Int → Int → Int) (gs : List (List Int)) : List (List Int) := gs.flatMap fun g => fallP (num g) g.length g
theorem fallAll_sum (num : List Int → Int → Int) (h0 : ∀ g x, 0 ≤ num g x) : ∀ (gs : List (List Int)), ((fallAll num gs).map List.length).sum ≤ (gs.map List.length).sum
 | [] => Nat.le_refl _
 | g :: gs => by
  have := fallAll_sum num h0 gs
  have h1 := (fallP_inv (num g) (h0 g) g.length g).1
  unfold fallAll at this ⊢
  rw [List.flatMap_cons, List.map_append, List.sum_append, List.map_cons, List.sum_cons]
  omega
theorem fallAll_ok {n : Int} (num : List Int → Int → Int) (h0 : ∀ g x, 0 ≤ num g x) {gs : List (List Int)} (h : okGroups n gs) : okGroups n (fallAll num gs) := by
 refine ⟨Nat.le_trans (fallAll_sum num h0 gs) h.1, fun g hg => ?_⟩
 obtain ⟨g', h1, h2⟩ := List.mem_flatMap.1 hg
 obtain ⟨i1, i2⟩ := (fallP_inv (num g') (h0 g') g'.length g').2 g h2
 exact ⟨i1, fun x hx => (h.2 g' h1).2 x (i2 x hx)⟩
def numOf (l : List S85) (code : Int) (g : List Int) (x : Int) : Int := numF (ruleFn code) (sidesOf x l) g
def groupsOf (l : List S85) (rules : List Int) (gs : List (List Int)) : List (List Int) := rules.foldl (fun gs r => fallAll (numOf l r) gs) gs
def setAll (out : List Int) (g : List Int) (r : Int) : List Int := g.foldl (fun o x => o.set x.toNat r) out
def outsOf : List (List Int) → List Int → Int → List Int
 | [], out, _ => out
 | g :: gs, out, r => outsOf gs (setAll out g r) (r + g.length)
theorem setAll_len : ∀ (g : List Int) (out : List Int) (r : Int), (setAll out g r).length = out.length
 | [], out, r => rfl
 | x :: g, out, r => (setAll_len g (out.set x.toNat r) r).trans List.length_set
def teamsL (n : Int) : List Int := (List.range n.toNat).map fun (i : Nat) => (i : Int)
theorem rdL3 (gs : List (List Int)) (i : Nat) (h : i < gs.length) : gs.drop i = rd_L3 gs (i : Int) :: gs.drop (i + 1) := by
 rw [List.drop_eq_getElem_cons h]
 congr 1
 unfold rd_L3
 rw [Int.toNat_natCast, List.getD_eq_getElem?_getD, List.getElem?_eq_getElem h, Option.getD_some]
theorem mem_drop_of {α : Type} {l : List α} {i : Nat} {x : α} {ys : List α} (h : l.drop i = x :: ys) : x ∈ l := List.mem_of_mem_drop (i := i) (by rw [h]; exact List.mem_cons_self)
section
variable (n : Int) (l : List S85) (n2 : 2 ≤ n) (n6 : n ≤ 6)
include n2 n6
theorem Rank_l4 (gs : List (List Int)) (j : Int) (g : List Int) (hg : g.length ≤ 1000) (hgx : ∀ x ∈ g, 0 ≤ x ∧ x < n) (r : Int) (R : List Int × Int) : ∀ (d i : Nat) (out : List Int), g.length - i = d → i ≤ g.length → out.length = n.toNat →
  Ev (fun k => league_Rank.l3 k (setAll out (g.drop i) r) (wrap64 (r + (g.length : Int))) gs (gs.length : Int) (wrap64 (j + 1))) R → Ev (fun k => league_Rank.l4 k out r g gs (gs.length : Int) j g (g.length : Int) (i : Int)) R := by
 intro d
 induction d with
 | zero =>
  intro i out hd hi ho H
  obtain rfl : i = g.length := by omega
  rw [List.drop_length] at H
  refine Ev.step (fun k => ?_) H
  simp only [league_Rank.l4]
  rw [if_neg (by omega)]
  rfl
 | succ d ih =>
  intro i out hd hi ho H
  have hx := hgx _ (mem_drop_of (dropI g i (by omega)))
  rw [dropI g i (by omega)] at H
  refine Ev.step (fun k => ?_) (ih (i + 1) (out.set (rd g (i : Int)).toNat r) (by omega) (by omega) (by rw [List.length_set]; exact ho) H)
  simp only [league_Rank.l4]
  rw [if_pos (by omega), if_pos (by omega), if_pos (by omega), if_pos hx.1, if_pos (by omega), wrapN i (by omega)]
theorem Rank_l3 (gs : List (List Int)) (hgs : okGroups n gs) : ∀ (d i : Nat) (out : List Int) (r : Int), gs.length - i = d → i ≤ gs.length → out.length = n.toNat → 0 ≤ r → r + 6 * (gs.length - i : Nat) ≤ 1000 →
  Ev (fun k => league_Rank.l3 k out r gs (gs.length : Int) (i : Int)) (outsOf (gs.drop i) out r, 0) := by
 intro d
 induction d with
 | zero =>
  intro i out r hd hi ho hr hr2
  obtain rfl : i = gs.length := by omega
  rw [List.drop_length]
  refine Ev.step (f := fun _ => some (out, 0)) (fun k => ?_) (Ev.now _)
  simp only [league_Rank.l3]
  rw [if_neg (by omega)]
 | succ d ih =>
  intro i out r hd hi ho hr hr2
  have hl := okGroups_len hgs
  have hm := mem_drop_of (rdL3 gs i (by omega))
  have hgl := hl.2 _ hm
  rw [rdL3 gs i (by omega)]
  refine Ev.step (f := fun k => league_Rank.l4 k out r (rd_L3 gs (i : Int)) gs (gs.length : Int) (i : Int) (rd_L3 gs (i : Int)) ((rd_L3 gs (i : Int)).length : Int) ((0 : Nat) : Int)) (fun k => ?_) ?_
  ·
   simp only [league_Rank.l3]
   rw [if_pos (by omega), if_pos (by omega), if_pos (by omega)]
   rfl
  ·
   refine Rank_l4 n n2 n6 gs (i : Int) (rd_L3 gs (i : Int)) (by omega) (hgs.2 _ hm).2 r _ _ 0 out rfl (Nat.zero_le _) ho ?_
   rw [List.drop_zero, IntWalk.wrap64_in _ ⟨by omega, by omega⟩, wrapN i (by omega)]
   exact ih (i + 1) _ _ (by omega) (by omega) (by rw [setAll_len]; exact ho) (by omega) (by omega)
theorem Rank_l2 (hl : ∀ g ∈ l, gameB n g = true) (hll : l.length ≤ 20) (rules : List Int) (j : Int) (code : Int) (gs : List (List Int)) (hgs : okGroups n gs) (R : List Int × Int) : ∀ (d i : Nat) (acc : List (List Int)), gs.length - i = d → i ≤ gs.length → acc = fallAll (numOf l code) (gs.take i) →
  Ev (fun k => league_Rank.l1 k (acc ++ fallAll (numOf l code) (gs.drop i)) rules (rules.length : Int) (wrap64 (j + 1)) n l n l) R →
  Ev (fun k => league_Rank.l2 k code acc rules (rules.length : Int) j gs (gs.length : Int) (i : Int) n l n l) R := by
 have h0 : ∀ g x, 0 ≤ numOf l code g x := fun g x => (numF_bound (ruleFn code) x n g l hll hl).1
 intro d
 induction d with
 | zero =>
  intro i acc hd hi ha H
  obtain rfl : i = gs.length := by omega
  rw [List.drop_length] at H
  refine Ev.step (fun k => ?_) H
  simp only [league_Rank.l2]
  rw [if_neg (by omega)]
  simp [fallAll]
 | succ d ih =>
  intro i acc hd hi ha H
  have hm := mem_drop_of (rdL3 gs i (by omega))
  have hlg := okGroups_len hgs
  have hgl := hlg.2 _ hm
  obtain ⟨g, hg⟩ : ∃ g, rd_L3 gs (i : Int) = g := ⟨_, rfl⟩
  have hdr := rdL3 gs i (by omega)
  rw [hg] at hdr hm hgl
  rw [hdr] at H
  have htk : gs.take (i + 1) = gs.take i ++ [g] := by
   rw [List.take_succ_eq_append_getElem (by omega)]
   congr 2
   rw [← hg]
   unfold rd_L3
   rw [Int.toNat_natCast, List.getD_eq_getElem?_getD, List.getElem?_eq_getElem (by omega), Option.getD_some]
  have hacc : (acc ++ fallP (numOf l code g) g.length g) = fallAll (numOf l code) (gs.take (i + 1)) := by
   rw [htk, ha]
   simp [fallAll, List.flatMap_append]
  have hlen : acc.length + (fallP (numOf l code g) g.length g).length ≤ 6 := by
   rw [← List.length_append, hacc]
   have hok : okGroups n (gs.take (i + 1)) := ⟨Nat.le_trans (take_sum gs (i + 1)) hgs.1, fun x hx => hgs.2 x (List.mem_of_mem_take hx)⟩
   exact (okGroups_len (fallAll_ok _ h0 hok)).1
  refine Ev.step (f := fun k => (league_table_fall.f k n l code g).bind fun t => if acc.length + t.length < 5864062014805 then league_Rank.l2 k code (acc ++ t) rules (rules.length : Int) j gs (gs.length : Int) ((i + 1 : Nat) : Int) n l n l else none) (fun k => ?_) ?_
  ·
   simp only [league_Rank.l2]
   rw [if_pos (by omega), if_pos (by omega), if_pos (by omega), hg, wrapN i (by omega)]
   rfl
  ·
   refine Ev.bind (fall_ev (numOf l code g) n l code g (by omega) (fun x => rfl) (h0 g)) ?_
   simp only [if_pos (by omega : acc.length + (fallP (numOf l code g) g.length g).length < 5864062014805)]
   refine ih (i + 1) _ (by omega) (by omega) hacc ?_
   simpa [fallAll] using H
theorem Rank_l1 (hl : ∀ g ∈ l, gameB n g = true) (hll : l.length ≤ 20) (rules : List Int) (hr : rules.length ≤ 1000) : ∀ (d i : Nat) (gs : List (List Int)), rules.length - i = d → i ≤ rules.length → okGroups n gs →
  Ev (fun k => league_Rank.l1 k gs rules (rules.length : Int) (i : Int) n l n l) (outsOf (groupsOf l (rules.drop i) gs) (List.replicate n.toNat 0) 1, 0) := by
 intro d
 induction d with
 | zero =>
  intro i gs hd hi hgs
  obtain rfl : i = rules.length := by omega
  rw [List.drop_length]
  refine Ev.step (f := fun k => league_Rank.l3 k (List.replicate n.toNat 0) 1 gs (gs.length : Int) 0) (fun k => ?_) ?_
  ·
   simp only [league_Rank.l1]
   rw [if_neg (by omega), if_pos (by omega), if_pos (by omega)]
  ·
   have := Rank_l3 n n2 n6 gs hgs gs.length 0 (List.replicate n.toNat 0) 1 rfl (Nat.zero_le _) List.length_replicate (by decide) (by have := (okGroups_len hgs).1; omega)
   rw [List.drop_zero] at this
   exact this
 | succ d ih =>
  intro i gs hd hi hgs
  have h0 : ∀ g x, 0 ≤ numOf l (rd rules (i : Int)) g x := fun g x => (numF_bound (ruleFn (rd rules (i : Int))) x n g l hll hl).1
  rw [dropI rules i (by omega)]
  refine Ev.step (f := fun k => league_Rank.l2 k (rd rules (i : Int)) [] rules (rules.length : Int) (i : Int) gs (gs.length : Int) ((0 : Nat) : Int) n l n l) (fun k => ?_) ?_
  ·
   simp only [league_Rank.l1]
   rw [if_pos (by omega), if_pos (by omega), if_pos (by omega)]
   rfl
  ·
   refine Rank_l2 n l n2 n6 hl hll rules (i : Int) (rd rules (i : Int)) gs hgs _ gs.length 0 [] rfl (Nat.zero_le _) (by simp [fallAll]) ?_
   rw [List.drop_zero, List.nil_append, wrapN i (by omega)]
   exact ih (i + 1) _ (by omega) (by omega) (fallAll_ok _ h0 hgs)
theorem teams_ok : okGroups n [teamsL n] := by
 refine ⟨?_, ?_⟩
 ·
  simp [teamsL]
  omega
 ·
  intro g hg
  rw [List.mem_singleton] at hg
  subst hg
  refine ⟨?_, fun x hx => ?_⟩
  ·
   intro h
   have : (teamsL n).length = n.toNat := by simp [teamsL]
   rw [h] at this
   simp at this
   omega
  ·
   obtain ⟨i, hi, rfl⟩ := List.mem_map.1 hx
   have := List.mem_range.1 hi
   omega
theorem Rank_l0 (rules : List Int) : ∃ c, ∀ k, league_Rank.l0 (k + c) rules (List.replicate n.toNat 0) n 0 n l n l = league_Rank.l1 k [teamsL n] rules (rules.length : Int) 0 n l n l := by
 have : n = 2 ∨ n = 3 ∨ n = 4 ∨ n = 5 ∨ n = 6 := by omega
 rcases this with rfl | rfl | rfl | rfl | rfl
 ·
  exact ⟨3, fun k => by kernel_rfl⟩
 ·
  exact ⟨4, fun k => by kernel_rfl⟩
 ·
  exact ⟨5, fun k => by kernel_rfl⟩
 ·
  exact ⟨6, fun k => by kernel_rfl⟩
 ·
  exact ⟨7, fun k => by kernel_rfl⟩
end
theorem Ev.shift {α : Type} {g f : Nat → Option α} {r : α} (c : Nat) (h : ∀ k, g (k + c) = f k) (k : Ev f r) : Ev g r := by
 obtain ⟨K, k⟩ := k
 refine ⟨K + c, fun n hn => ?_⟩
 obtain ⟨m, rfl⟩ : ∃ m, n = m + c := ⟨n - c, by omega⟩
 rw [h]
 exact k m (by omega)
def rankOf (n : Int) (l : List S85) (rules : List Int) : List Int := outsOf (groupsOf l rules [teamsL n]) (List.replicate n.toNat 0) 1
def rankF (n : Int) (l : List S85) (rules : List Int) : List Int × Int :=
 if checkF n l ≠ 0 then ([], checkF n l) else if 6 < rules.length then ([], 3) else if rules.all ruleB = true then (rankOf n l rules, 0) else ([], 2)
theorem Rank_ev (n : Int) (l : List S85) (rules : List Int) : Ev (fun k => league_Rank.f k n l rules) (rankF n l rules) := by
 unfold league_Rank.f rankF league_CheckLeague.f league_all_uint8.f
 simp only [Option.bind_some]
 by_cases hc : checkF n l = 0
 ·
  simp only [hc, if_true, ne_eq, not_true_eq_false, if_false]
  obtain ⟨h20, n2, n6, hok⟩ := check_ok hc
  by_cases h6 : 6 < rules.length
  ·
   simp only [if_pos h6, if_pos (show (rules.length : Int) > 6 by omega)]
   exact Ev.now _
  ·
   simp only [if_neg h6, if_neg (show ¬ (rules.length : Int) > 6 by omega)]
   by_cases hr : rules.all ruleB = true
   ·
    simp only [if_pos hr, if_pos (show (0 : Int) ≤ n by omega), if_pos (show n.toNat ≤ 35184372088832 by omega)]
    obtain ⟨c, hcc⟩ := Rank_l0 n l n2 n6 rules
    refine Ev.shift c hcc ?_
    have := Rank_l1 n l n2 n6 hok h20 rules (by omega) rules.length 0 [teamsL n] rfl (Nat.zero_le _) (teams_ok n n2 n6)
    rw [List.drop_zero] at this
    exact this
   ·
    simp only [if_neg hr]
    exact Ev.now _
 ·
  simp only [if_neg hc, ne_eq, hc, not_false_eq_true, if_true]
  exact Ev.now _
section
variable (n : Int) (l : List S70) (n2 : 2 ≤ n) (n6 : n ≤ 6)
include n2 n6
end
end Go.Proofs.Ytmnamkcjldaoeaa.PAll
namespace Go.Proofs.Ytmnamkcjldaoeaa.PAll
open Go.RowKit Go.Proofs.YtmnamkcjldaoeaaW.PrintWords Go.Proofs.YtmnamkcjldaoeaaW.PrintLast Go.Proofs.YtmnamkcjldaoeaaW.PrintMore
set_option linter.unusedVariables false
set_option linter.unusedSimpArgs false
set_option linter.unusedSectionVars false
def rk : List (List Int) → Int → Int → Int
 | [], _, _ => 0
 | g :: gs, r, x => if x ∈ g then r else rk gs (r + g.length) x
theorem rk_cons (g : List Int) (gs : List (List Int)) (r x : Int) : rk (g :: gs) r x = if x ∈ g then r else rk gs (r + g.length) x := rfl
theorem rk_ge : ∀ (gs : List (List Int)) (r x : Int), x ∈ gs.flatten → r ≤ rk gs r x
 | g :: gs, r, x, h => by
  rw [rk_cons]
  by_cases hg : x ∈ g
  ·
   rw [if_pos hg]
   exact Int.le_refl _
  ·
   rw [if_neg hg]
   have h2 : x ∈ gs.flatten := by
    rw [List.flatten_cons] at h
    exact (List.mem_append.1 h).resolve_left hg
   have := rk_ge gs (r + g.length) x h2
   omega
theorem rk_lt : ∀ (gs : List (List Int)) (r x : Int), (∀ g ∈ gs, g ≠ []) → x ∈ gs.flatten → rk gs r x < r + gs.flatten.length
 | g :: gs, r, x, hn, h => by
  rw [rk_cons]
  rw [List.flatten_cons, List.length_append]
  by_cases hg : x ∈ g
  ·
   rw [if_pos hg]
   have := List.length_pos_of_mem hg
   push_cast
   omega
  ·
   rw [if_neg hg]
   have h2 : x ∈ gs.flatten := by
    rw [List.flatten_cons] at h
    exact (List.mem_append.1 h).resolve_left hg
   have := rk_lt gs (r + g.length) x (fun y hy => hn y (List.mem_cons_of_mem _ hy)) h2
   push_cast
   omega
theorem rk_app : ∀ (A B : List (List Int)) (r x : Int), rk (A ++ B) r x = if x ∈ A.flatten then rk A r x else rk B (r + A.flatten.length) x
 | [], B, r, x => by simp
 | g :: A, B, r, x => by
  rw [List.cons_append, rk_cons, rk_cons]
  by_cases hg : x ∈ g
  ·
   rw [if_pos hg, if_pos (by rw [List.flatten_cons]; exact List.mem_append_left _ hg), if_pos hg]
  ·
   rw [if_neg hg, rk_app A B, if_neg hg]
   by_cases h2 : x ∈ A.flatten
   ·
    rw [if_pos h2, if_pos (by rw [List.flatten_cons]; exact List.mem_append_right _ h2)]
   ·
    rw [if_neg h2, if_neg (by rw [List.flatten_cons, List.mem_append]; exact fun h => h.elim hg h2), List.flatten_cons, List.length_append]
    congr 1
    push_cast
    omega
theorem setAll_get : ∀ (g : List Int) (out : List Int) (r : Int) (x : Int), (∀ y ∈ g, 0 ≤ y ∧ y < out.length) → 0 ≤ x → (setAll out g r).getD x.toNat 0 = if x ∈ g then r else out.getD x.toNat 0
 | [], out, r, x, _, _ => by simp [setAll]
 | y :: g, out, r, x, hg, hx => by
  have hy := hg y List.mem_cons_self
  have he : setAll out (y :: g) r = setAll (out.set y.toNat r) g r := rfl
  rw [he, setAll_get g (out.set y.toNat r) r x (fun z hz => by rw [List.length_set]; exact hg z (List.mem_cons_of_mem _ hz)) hx]
  by_cases h1 : x ∈ g
  ·
   rw [if_pos h1, if_pos (List.mem_cons_of_mem _ h1)]
  ·
   rw [if_neg h1]
   by_cases h2 : x = y
   ·
    subst h2
    rw [if_pos List.mem_cons_self, List.getD_eq_getElem?_getD, List.getElem?_set_self (by omega), Option.getD_some]
   ·
    rw [if_neg (fun h => (List.mem_cons.1 h).elim h2 h1), List.getD_eq_getElem?_getD, List.getElem?_set_ne (by omega), ← List.getD_eq_getElem?_getD]
theorem outs_get : ∀ (gs : List (List Int)) (out : List Int) (r x : Int), gs.flatten.Nodup → (∀ y ∈ gs.flatten, 0 ≤ y ∧ y < out.length) → 0 ≤ x → (outsOf gs out r).getD x.toNat 0 = if x ∈ gs.flatten then rk gs r x else out.getD x.toNat 0
 | [], out, r, x, _, _, _ => by simp [outsOf]
 | g :: gs, out, r, x, hn, hb, hx => by
  rw [List.flatten_cons] at hn hb ⊢
  obtain ⟨n1, n2, n3⟩ := List.nodup_append.1 hn
  have he : outsOf (g :: gs) out r = outsOf gs (setAll out g r) (r + g.length) := rfl
  have hb1 : ∀ y ∈ g, 0 ≤ y ∧ y < out.length := fun y hy => hb y (List.mem_append_left _ hy)
  rw [he, outs_get gs (setAll out g r) (r + g.length) x n2 (fun y hy => by rw [setAll_len]; exact hb y (List.mem_append_right _ hy)) hx]
  rw [rk_cons]
  by_cases h1 : x ∈ gs.flatten
  ·
   have h2 : ¬ x ∈ g := fun h => n3 x h x h1 rfl
   rw [if_pos h1, if_pos (List.mem_append_right _ h1), if_neg h2]
  ·
   rw [if_neg h1, setAll_get g out r x hb1 hx]
   by_cases h2 : x ∈ g
   ·
    rw [if_pos h2, if_pos (List.mem_append_left _ h2), if_pos h2]
   ·
    rw [if_neg h2, if_neg (fun h => (List.mem_append.1 h).elim h2 h1)]
theorem rk_cnt : ∀ (gs : List (List Int)) (r t : Int), (∀ g ∈ gs, g ≠ []) → gs.flatten.Nodup → t ∈ gs.flatten → ((gs.flatten.filter fun o => decide (rk gs r o < rk gs r t)).length : Int) = rk gs r t - r
 | g :: gs, r, t, hn, hd, ht => by
  rw [List.flatten_cons] at hd ht
  obtain ⟨n1, n2, n3⟩ := List.nodup_append.1 hd
  have hge : ∀ o ∈ gs.flatten, r + g.length ≤ rk gs (r + g.length) o := fun o ho => rk_ge gs _ o ho
  have hgp := List.length_pos_iff.2 (hn g List.mem_cons_self)
  have e1 : ∀ o ∈ g, rk (g :: gs) r o = r := fun o ho => by rw [rk_cons, if_pos ho]
  have e2 : ∀ o ∈ gs.flatten, rk (g :: gs) r o = rk gs (r + g.length) o := fun o ho => by rw [rk_cons, if_neg (fun h => n3 o h o ho rfl)]
  rw [List.flatten_cons, List.filter_append, List.length_append]
  by_cases htg : t ∈ g
  ·
   rw [e1 t htg]
   have f1 : g.filter (fun o => decide (rk (g :: gs) r o < r)) = [] := List.filter_eq_nil_iff.2 fun o ho => by rw [e1 o ho]; simp
   have f2 : gs.flatten.filter (fun o => decide (rk (g :: gs) r o < r)) = [] := List.filter_eq_nil_iff.2 fun o ho => by
    rw [e2 o ho]
    have := hge o ho
    simp
    omega
   rw [f1, f2]
   simp
  ·
   have htg2 : t ∈ gs.flatten := (List.mem_append.1 ht).resolve_left htg
   rw [e2 t htg2]
   have hgt := hge t htg2
   have f1 : g.filter (fun o => decide (rk (g :: gs) r o < rk gs (r + g.length) t)) = g := List.filter_eq_self.2 fun o ho => by
    rw [e1 o ho]
    simp
    omega
   have f2 : gs.flatten.filter (fun o => decide (rk (g :: gs) r o < rk gs (r + g.length) t)) = gs.flatten.filter (fun o => decide (rk gs (r + g.length) o < rk gs (r + g.length) t)) := List.filter_congr fun o ho => by rw [e2 o ho]
   have ih := rk_cnt gs (r + g.length) t (fun y hy => hn y (List.mem_cons_of_mem _ hy)) n2 htg2
   rw [f1, f2]
   push_cast
   omega
theorem rk_same : ∀ (gs : List (List Int)) (r o t : Int), (∀ g ∈ gs, g ≠ []) → o ∈ gs.flatten → t ∈ gs.flatten → rk gs r o = rk gs r t → ∃ g ∈ gs, o ∈ g ∧ t ∈ g
 | g :: gs, r, o, t, hn, ho, ht, h => by
  rw [List.flatten_cons] at ho ht
  rw [rk_cons, rk_cons] at h
  have hgp := List.length_pos_iff.2 (hn g List.mem_cons_self)
  by_cases h1 : o ∈ g
  ·
   by_cases h2 : t ∈ g
   ·
    exact ⟨g, List.mem_cons_self, h1, h2⟩
   ·
    rw [if_pos h1, if_neg h2] at h
    have := rk_ge gs (r + g.length) t ((List.mem_append.1 ht).resolve_left h2)
    omega
  ·
   have ho2 := (List.mem_append.1 ho).resolve_left h1
   by_cases h2 : t ∈ g
   ·
    rw [if_neg h1, if_pos h2] at h
    have := rk_ge gs (r + g.length) o ho2
    omega
   ·
    rw [if_neg h1, if_neg h2] at h
    obtain ⟨g', q1, q2⟩ := rk_same gs (r + g.length) o t (fun y hy => hn y (List.mem_cons_of_mem _ hy)) ho2 ((List.mem_append.1 ht).resolve_left h2) h
    exact ⟨g', List.mem_cons_of_mem _ q1, q2⟩
theorem filter_perm {α : Type} (p : α → Bool) : ∀ (l : List α), (l.filter p ++ l.filter (fun x => !p x)).Perm l
 | [] => List.Perm.refl _
 | x :: l => by
  have ih := filter_perm p l
  cases h : p x with
  | true =>
   rw [List.filter_cons_of_pos (by simpa using h), List.filter_cons_of_neg (by simp [h])]
   exact List.Perm.cons x ih
  | false =>
   rw [List.filter_cons_of_neg (by simp [h]), List.filter_cons_of_pos (by simp [h])]
   exact List.perm_middle.trans (List.Perm.cons x ih)
section
variable (num : Int → Int) (h0 : ∀ x, 0 ≤ num x)
include h0
theorem fallP_perm : ∀ (d : Nat) (rest : List Int), rest.length ≤ d → ((fallP num d rest).flatten).Perm rest
 | 0, rest, h => by
  obtain rfl := List.eq_nil_of_length_eq_zero (by omega : rest.length = 0)
  exact List.Perm.refl _
 | d + 1, rest, h => by
  by_cases hn : rest = []
  ·
   subst hn
   rw [fallP_nil]
   exact List.Perm.refl _
  ·
   obtain ⟨s1, s2, s3⟩ := filter_short num rest hn h0
   rw [fallP, if_neg hn, List.flatten_cons]
   exact (List.Perm.append_left _ (fallP_perm d _ (by omega))).trans (filter_perm _ rest)
theorem fallP_same : ∀ (d : Nat) (rest : List Int), ∀ g ∈ fallP num d rest, ∀ x ∈ g, ∀ y ∈ g, num x = num y
 | 0, rest, g, hg, _, _, _, _ => by simp [fallP] at hg
 | d + 1, rest, g, hg, x, hx, y, hy => by
  by_cases hn : rest = []
  ·
   subst hn
   rw [fallP_nil] at hg
   cases hg
  ·
   rw [fallP, if_neg hn] at hg
   rcases List.mem_cons.1 hg with rfl | hg
   ·
    have h1 := (List.mem_filter.1 hx).2
    have h2 := (List.mem_filter.1 hy).2
    simp only [decide_eq_true_eq] at h1 h2
    rw [h1, h2]
   ·
    exact fallP_same d _ g hg x hx y hy
end
section
variable (num : List Int → Int → Int) (h0 : ∀ g x, 0 ≤ num g x)
include h0
theorem fallAll_perm : ∀ (gs : List (List Int)), ((fallAll num gs).flatten).Perm gs.flatten
 | [] => List.Perm.refl _
 | g :: gs => by
  have ih := fallAll_perm gs
  unfold fallAll at ih ⊢
  rw [List.flatMap_cons, List.flatten_append, List.flatten_cons]
  exact (fallP_perm (num g) (h0 g) g.length g (Nat.le_refl _)).append ih
theorem fallAll_ne (gs : List (List Int)) : ∀ g ∈ fallAll num gs, g ≠ [] := by
 intro g hg
 obtain ⟨g', h1, h2⟩ := List.mem_flatMap.1 hg
 exact ((fallP_inv (num g') (h0 g') g'.length g').2 g h2).1
theorem fallAll_rk : ∀ (gs : List (List Int)) (r r2 o t : Int), (∀ g ∈ gs, g ≠ []) → gs.flatten.Nodup → o ∈ gs.flatten → t ∈ gs.flatten → rk gs r o < rk gs r t → rk (fallAll num gs) r2 o < rk (fallAll num gs) r2 t
 | g :: gs, r, r2, o, t, hne, hd, ho, ht, h => by
  rw [List.flatten_cons] at hd ho ht
  obtain ⟨n1, n2, n3⟩ := List.nodup_append.1 hd
  have hperm := fallP_perm (num g) (h0 g) g.length g (Nat.le_refl _)
  have hmem : ∀ x, x ∈ (fallP (num g) g.length g).flatten ↔ x ∈ g := fun x => hperm.mem_iff
  have hlen : (fallP (num g) g.length g).flatten.length = g.length := hperm.length_eq
  have hfn : ∀ q ∈ fallP (num g) g.length g, q ≠ [] := fun q hq => ((fallP_inv (num g) (h0 g) g.length g).2 q hq).1
  have he : fallAll num (g :: gs) = fallP (num g) g.length g ++ fallAll num gs := rfl
  rw [he, rk_app, rk_app, hlen]
  rw [rk_cons, rk_cons] at h
  by_cases h1 : o ∈ g
  ·
   rw [if_pos ((hmem o).2 h1)]
   by_cases h2 : t ∈ g
   ·
    rw [if_pos h1, if_pos h2] at h
    omega
   ·
    rw [if_neg (fun hh => h2 ((hmem t).1 hh))]
    have ht2 := (List.mem_append.1 ht).resolve_left h2
    have a1 := rk_lt (fallP (num g) g.length g) r2 o hfn ((hmem o).2 h1)
    have a2 := rk_ge (fallAll num gs) (r2 + g.length) t ((fallAll_perm num h0 gs).mem_iff.2 ht2)
    rw [hlen] at a1
    omega
  ·
   have ho2 := (List.mem_append.1 ho).resolve_left h1
   rw [if_neg h1] at h
   have a3 := rk_ge gs (r + g.length) o ho2
   by_cases h2 : t ∈ g
   ·
    rw [if_pos h2] at h
    omega
   ·
    have ht2 := (List.mem_append.1 ht).resolve_left h2
    rw [if_neg h2] at h
    rw [if_neg (fun hh => h1 ((hmem o).1 hh)), if_neg (fun hh => h2 ((hmem t).1 hh))]
    exact fallAll_rk gs (r + g.length) (r2 + g.length) o t (fun y hy => hne y (List.mem_cons_of_mem _ hy)) n2 ho2 ht2 h
end
section
variable (n : Int) (l : List S85) (hll : l.length ≤ 20) (hl : ∀ g ∈ l, gameB n g = true)
include hll hl
theorem numOf_nonneg (code : Int) (g : List Int) (x : Int) : 0 ≤ numOf l code g x := (numF_bound (ruleFn code) x n g l hll hl).1
theorem groups_inv : ∀ (rules : List Int) (gs : List (List Int)), (∀ g ∈ gs, g ≠ []) → ((groupsOf l rules gs).flatten).Perm gs.flatten ∧ ∀ g ∈ groupsOf l rules gs, g ≠ []
 | [], gs, hne => ⟨List.Perm.refl _, hne⟩
 | r :: rules, gs, hne => by
  have h0 := fun g x => numOf_nonneg n l hll hl r g x
  obtain ⟨i1, i2⟩ := groups_inv rules (fallAll (numOf l r) gs) (fallAll_ne (numOf l r) h0 gs)
  exact ⟨i1.trans (fallAll_perm (numOf l r) h0 gs), i2⟩
def sameBy (l : List S85) (code : Int) (gs : List (List Int)) : Prop := ∀ g ∈ gs, ∀ x ∈ g, ∀ y ∈ g, numOf l code [] x = numOf l code [] y
theorem sameBy_fall (code c : Int) (gs : List (List Int)) (h : sameBy l code gs) : sameBy l code (fallAll (numOf l c) gs) := by
 intro g hg x hx y hy
 obtain ⟨g', h1, h2⟩ := List.mem_flatMap.1 hg
 have hs := ((fallP_inv (numOf l c g') (fun x => numOf_nonneg n l hll hl c g' x) g'.length g').2 g h2).2
 exact h g' h1 x (hs x hx) y (hs y hy)
theorem sameBy_groups (code : Int) : ∀ (rules : List Int) (gs : List (List Int)), sameBy l code gs → sameBy l code (groupsOf l rules gs)
 | [], gs, h => h
 | r :: rules, gs, h => sameBy_groups code rules _ (sameBy_fall n l hll hl code r gs h)
theorem numF_group (f : Nat) (hf : f ≠ 90) (x : Int) (g : List Int) : numF f (sidesOf x l) g = numF f (sidesOf x l) [] := by
 unfold numF
 congr 1
 funext s p
 unfold ruleVal
 rw [if_neg hf, if_neg hf]
theorem sameBy_rule (code : Int) (hc : code ≠ 3) : ∀ (rules : List Int) (gs : List (List Int)), code ∈ rules → sameBy l code (groupsOf l rules gs)
 | r :: rules, gs, hm => by
  rcases List.mem_cons.1 hm with rfl | hm
  ·
   refine sameBy_groups n l hll hl code rules _ ?_
   intro g hg x hx y hy
   obtain ⟨g', h1, h2⟩ := List.mem_flatMap.1 hg
   have := fallP_same (numOf l code g') (fun x => numOf_nonneg n l hll hl code g' x) g'.length g' g h2 x hx y hy
   have hf : ruleFn code ≠ 90 := by
    unfold ruleFn
    by_cases c1 : code = 1
    ·
     simp [c1]
    ·
     by_cases c2 : code = 2
     ·
      simp [c2]
     ·
      simp [c1, c2, hc]
   unfold numOf at this ⊢
   rw [numF_group n l hll hl _ hf x g', numF_group n l hll hl _ hf y g'] at this
   exact this
  ·
   exact sameBy_rule code hc rules _ hm
end
theorem teams_nodup (n : Int) : (teamsL n).Nodup := by
 unfold teamsL List.Nodup
 rw [List.pairwise_map]
 exact (List.nodup_range (n := n.toNat)).imp fun h e => h (by omega)
theorem mem_teams (n t : Int) : t ∈ teamsL n ↔ 0 ≤ t ∧ t < n := by
 unfold teamsL
 rw [List.mem_map]
 constructor
 ·
  rintro ⟨i, hi, rfl⟩
  have := List.mem_range.1 hi
  omega
 ·
  rintro ⟨h1, h2⟩
  exact ⟨t.toNat, List.mem_range.2 (by omega), by omega⟩
structure RankLaw (n : Int) (l : List S85) (rules : List Int) (A : Int → Int) : Prop where
 get : ∀ t, 0 ≤ t → t < n → rd (rankOf n l rules) t = A t
 cnt : ∀ t, 0 ≤ t → t < n → (((teamsL n).filter fun o => decide (A o < A t)).length : Int) = A t - 1
 same : ∀ code ∈ rules, code ≠ 3 → ∀ o t, 0 ≤ o → o < n → 0 ≤ t → t < n → A o = A t → numOf l code [] o = numOf l code [] t
theorem rank_law {n : Int} {l : List S85} (hc : checkF n l = 0) (rules : List Int) : RankLaw n l rules (rk (groupsOf l rules [teamsL n]) 1) := by
 obtain ⟨h20, n2, n6, hok⟩ := check_ok hc
 have ht := teams_ok n n2 n6
 have hne : ∀ g ∈ [teamsL n], g ≠ [] := fun g hg => (ht.2 g hg).1
 obtain ⟨p1, p2⟩ := groups_inv n l h20 hok rules [teamsL n] hne
 have p1 : ((groupsOf l rules [teamsL n]).flatten).Perm (teamsL n) := by simpa using p1
 have hnd := p1.nodup_iff.2 (teams_nodup n)
 have hmem : ∀ t, t ∈ (groupsOf l rules [teamsL n]).flatten ↔ 0 ≤ t ∧ t < n := fun t => p1.mem_iff.trans (mem_teams n t)
 refine ⟨?_, ?_, ?_⟩
 ·
  intro t t0 t1
  unfold rd rankOf
  rw [outs_get _ _ 1 t hnd (fun y hy => by have := (hmem y).1 hy; rw [List.length_replicate]; omega) t0, if_pos ((hmem t).2 ⟨t0, t1⟩)]
 ·
  intro t t0 t1
  have := rk_cnt (groupsOf l rules [teamsL n]) 1 t p2 hnd ((hmem t).2 ⟨t0, t1⟩)
  rw [← this]
  exact congrArg (fun (x : Nat) => (x : Int)) ((p1.filter _).length_eq).symm
 ·
  intro code hcm hc3 o t o0 o1 t0 t1 h
  obtain ⟨g, hg, q1, q2⟩ := rk_same _ 1 o t p2 ((hmem o).2 ⟨o0, o1⟩) ((hmem t).2 ⟨t0, t1⟩) h
  exact sameBy_rule n l h20 hok code hc3 rules [teamsL n] hcm g hg o q1 t q2
theorem rank_more {n : Int} {l : List S85} (hc : checkF n l = 0) (rules : List Int) (c : Int) (o t : Int) (o0 : 0 ≤ o) (o1 : o < n) (t0 : 0 ≤ t) (t1 : t < n) (h : rk (groupsOf l rules [teamsL n]) 1 o < rk (groupsOf l rules [teamsL n]) 1 t) :
  rk (groupsOf l (rules ++ [c]) [teamsL n]) 1 o < rk (groupsOf l (rules ++ [c]) [teamsL n]) 1 t := by
 obtain ⟨h20, n2, n6, hok⟩ := check_ok hc
 have ht := teams_ok n n2 n6
 have hne : ∀ g ∈ [teamsL n], g ≠ [] := fun g hg => (ht.2 g hg).1
 obtain ⟨p1, p2⟩ := groups_inv n l h20 hok rules [teamsL n] hne
 have p1 : ((groupsOf l rules [teamsL n]).flatten).Perm (teamsL n) := by simpa using p1
 have hnd := p1.nodup_iff.2 (teams_nodup n)
 have hmem : ∀ t, t ∈ (groupsOf l rules [teamsL n]).flatten ↔ 0 ≤ t ∧ t < n := fun t => p1.mem_iff.trans (mem_teams n t)
 have he : groupsOf l (rules ++ [c]) [teamsL n] = fallAll (numOf l c) (groupsOf l rules [teamsL n]) := by
  unfold groupsOf
  rw [List.foldl_append]
  rfl
 rw [he]
 exact fallAll_rk (numOf l c) (fun g x => numOf_nonneg n l h20 hok c g x) _ 1 1 o t p2 hnd ((hmem o).2 ⟨o0, o1⟩) ((hmem t).2 ⟨t0, t1⟩) h
end Go.Proofs.Ytmnamkcjldaoeaa.PAll
namespace Go.Proofs.Ytmnamkcjldaoeaa.PAll
open Go.RowKit Go.Proofs.YtmnamkcjldaoeaaW.PrintWords Go.Proofs.YtmnamkcjldaoeaaW.PrintLast Go.Proofs.YtmnamkcjldaoeaaW.PrintMore
set_option linter.unusedVariables false
set_option linter.unusedSimpArgs false
theorem codes_eq (l : List Int) (h : l.length ≤ 1000000) : kingpinlaw08_codes.f l = some l := by
 unfold kingpinlaw08_codes.f
 rw [if_pos h]
def readyB (a : Int) (l : List S70) : Bool := decide (l.length ≤ 24) && decide (checkF a (l.map toG) = 0)
theorem ready_ev (a : Int) (l : List S70) : Ev (fun k => kingpinlaw08_ready.f a l) (readyB a l) := by
 unfold kingpinlaw08_ready.f kingpinlaw08_Thin.f readyB
 simp only [Option.bind_some, decide_eq_true_eq]
 by_cases ht : l.length ≤ 24
 ·
  simp only [if_pos (show (l.length : Int) ≤ 24 by omega), decide_eq_true ht, Bool.true_and]
  exact Ev.now _
 ·
  simp only [if_neg (show ¬ (l.length : Int) ≤ 24 by omega), decide_eq_false ht, Bool.false_and]
  exact Ev.now _
end Go.Proofs.Ytmnamkcjldaoeaa.PAll
