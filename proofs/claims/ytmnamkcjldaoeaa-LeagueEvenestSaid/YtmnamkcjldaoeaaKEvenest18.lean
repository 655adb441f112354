/- Parts of the proof of leagueEvenest_holds, in order: HAwake, HP1, HP4, HP7, F5, HP6 -/
import Derived.Test.YtmnamkcjldaoeaaKEvenest3
import Derived.Test.YtmnamkcjldaoeaaKEvenest5
import Derived.Test.YtmnamkcjldaoeaaKEvenest11
import Derived.Test.YtmnamkcjldaoeaaKEvenest13
import Derived.Test.YtmnamkcjldaoeaaKEvenest14
import Derived.Test.YtmnamkcjldaoeaaKEvenest16
import Derived.Test.YtmnamkcjldaoeaaKEvenest17
namespace Go.Proofs.Ytmnamkcjldaoeaa.PAll
open Go.RowKit Go.Proofs.YtmnamkcjldaoeaaW.PrintWords Go.Proofs.YtmnamkcjldaoeaaW.PrintLast Go.Proofs.YtmnamkcjldaoeaaW.PrintMore
attribute [local go_sem] max2_int min2_int max_two min_two max_three min_three max_four min_four   -- for this text's walks alone
set_option linter.unusedVariables false
set_option linter.unusedSimpArgs false
def awakeF (k : Nat)  : Option (Bool) := (kingpinlaw08_played.f).bind fun bt176 => ((league_Rank.f k bt176.1 bt176.2 (([1, 3] : List Int))).bind fun bt183 => ((kingpinlaw08_played.f).bind fun bt187 => ((league_After.f bt187.1 bt187.2 (([3, 2] : List Int))).bind fun bt194 => ((kingpinlaw08_played.f).bind fun bt198 => ((league_Reason.f bt198.1 bt198.2 2).bind fun bt202 => ((league_Build.f 4).bind fun bt206 => (if bt183.2 = 0 then ((kingpinlaw08_ints.f k bt183.1 (([1, 1, 3, 4] : List Int))).bind fun t213 => (if t213 = true then (if bt194.2 = 0 then ((kingpinlaw08_ints.f k bt194.1 (([2, 3, 2, 3] : List Int))).bind fun t217 => (if t217 = true then (if bt202.2 = 0 then ((kingpinlaw08_ints.f k bt202.1 (([0, 1, 3] : List Int))).bind fun t221 => (if t221 = true then (if bt206.2 = 0 then ((league_ProveSchedule.f 4 bt206.1 3).bind fun t222 => (if t222 = true then ((league_ProveSchedule.f 4 bt206.1 2).bind fun t223 => (some (!t223))) else (some false))) else (some false)) else (some false))) else (some false)) else (some false))) else (some false)) else (some false))) else (some false))))))))
set_option maxHeartbeats 8000000 in
set_option maxRecDepth 100000 in
theorem awake_calls (k : Nat) (r : Bool) (w : World) (hr : r = true) (h : awakeF k = some r) :
  Calls Try.prog 16 #[] w fun e w' => e = .returned (.bool r) ∧ Below w.heap.size w w' := by
 have HB := Aside0.mk (Below.refl w.heap.size w)
 have H : ((kingpinlaw08_played.f).bind fun bt176 => ((league_Rank.f k bt176.1 bt176.2 (([1, 3] : List Int))).bind fun bt183 => ((kingpinlaw08_played.f).bind fun bt187 => ((league_After.f bt187.1 bt187.2 (([3, 2] : List Int))).bind fun bt194 => ((kingpinlaw08_played.f).bind fun bt198 => ((league_Reason.f bt198.1 bt198.2 2).bind fun bt202 => ((league_Build.f 4).bind fun bt206 => (if bt183.2 = 0 then ((kingpinlaw08_ints.f k bt183.1 (([1, 1, 3, 4] : List Int))).bind fun t213 => (if t213 = true then (if bt194.2 = 0 then ((kingpinlaw08_ints.f k bt194.1 (([2, 3, 2, 3] : List Int))).bind fun t217 => (if t217 = true then (if bt202.2 = 0 then ((kingpinlaw08_ints.f k bt202.1 (([0, 1, 3] : List Int))).bind fun t221 => (if t221 = true then (if bt206.2 = 0 then ((league_ProveSchedule.f 4 bt206.1 3).bind fun t222 => (if t222 = true then ((league_ProveSchedule.f 4 bt206.1 2).bind fun t223 => (some (!t223))) else (some false))) else (some false)) else (some false))) else (some false)) else (some false))) else (some false)) else (some false))) else (some false))))))))) = some r := h
 clear h
 replace H := Option.bind_eq_some_iff.mp H
 obtain ⟨⟨t176, t177⟩, A10, H⟩ := H
 replace H : ((league_Rank.f k t176 t177 (([1, 3] : List Int))).bind fun bt183 => ((kingpinlaw08_played.f).bind fun bt187 => ((league_After.f bt187.1 bt187.2 (([3, 2] : List Int))).bind fun bt194 => ((kingpinlaw08_played.f).bind fun bt198 => ((league_Reason.f bt198.1 bt198.2 2).bind fun bt202 => ((league_Build.f 4).bind fun bt206 => (if bt183.2 = 0 then ((kingpinlaw08_ints.f k bt183.1 (([1, 1, 3, 4] : List Int))).bind fun t213 => (if t213 = true then (if bt194.2 = 0 then ((kingpinlaw08_ints.f k bt194.1 (([2, 3, 2, 3] : List Int))).bind fun t217 => (if t217 = true then (if bt202.2 = 0 then ((kingpinlaw08_ints.f k bt202.1 (([0, 1, 3] : List Int))).bind fun t221 => (if t221 = true then (if bt206.2 = 0 then ((league_ProveSchedule.f 4 bt206.1 3).bind fun t222 => (if t222 = true then ((league_ProveSchedule.f 4 bt206.1 2).bind fun t223 => (some (!t223))) else (some false))) else (some false)) else (some false))) else (some false)) else (some false))) else (some false)) else (some false))) else (some false)))))))) = some r := H
 have A1 := Aside0.mk A10
 clear A10
 obtain ⟨y180, hy180⟩ : ∃ y_ : List Int, y_ = (([1, 3] : List Int)) := ⟨_, rfl⟩
 replace H : ((league_Rank.f k t176 t177 y180).bind fun bt183 => ((kingpinlaw08_played.f).bind fun bt187 => ((league_After.f bt187.1 bt187.2 (([3, 2] : List Int))).bind fun bt194 => ((kingpinlaw08_played.f).bind fun bt198 => ((league_Reason.f bt198.1 bt198.2 2).bind fun bt202 => ((league_Build.f 4).bind fun bt206 => (if bt183.2 = 0 then ((kingpinlaw08_ints.f k bt183.1 (([1, 1, 3, 4] : List Int))).bind fun t213 => (if t213 = true then (if bt194.2 = 0 then ((kingpinlaw08_ints.f k bt194.1 (([2, 3, 2, 3] : List Int))).bind fun t217 => (if t217 = true then (if bt202.2 = 0 then ((kingpinlaw08_ints.f k bt202.1 (([0, 1, 3] : List Int))).bind fun t221 => (if t221 = true then (if bt206.2 = 0 then ((league_ProveSchedule.f 4 bt206.1 3).bind fun t222 => (if t222 = true then ((league_ProveSchedule.f 4 bt206.1 2).bind fun t223 => (some (!t223))) else (some false))) else (some false)) else (some false))) else (some false)) else (some false))) else (some false)) else (some false))) else (some false)))))))) = some r := by first | (rw [hy180]; with_reducible exact H) | (have H2_ := (Option.bind_some _ _).symm.trans H; rw [hy180]; with_reducible exact H2_) | (have H2_ := (Option.bind_some _ _).symm.trans H; with_reducible exact H2_) | with_reducible exact H | (rw [hy180]; exact H) | exact H
 have Ny180 := Aside0.mk hy180
 clear hy180
 replace H := Option.bind_eq_some_iff.mp H
 obtain ⟨⟨t183, t186⟩, A20, H⟩ := H
 replace H : ((kingpinlaw08_played.f).bind fun bt187 => ((league_After.f bt187.1 bt187.2 (([3, 2] : List Int))).bind fun bt194 => ((kingpinlaw08_played.f).bind fun bt198 => ((league_Reason.f bt198.1 bt198.2 2).bind fun bt202 => ((league_Build.f 4).bind fun bt206 => (if t186 = 0 then ((kingpinlaw08_ints.f k t183 (([1, 1, 3, 4] : List Int))).bind fun t213 => (if t213 = true then (if bt194.2 = 0 then ((kingpinlaw08_ints.f k bt194.1 (([2, 3, 2, 3] : List Int))).bind fun t217 => (if t217 = true then (if bt202.2 = 0 then ((kingpinlaw08_ints.f k bt202.1 (([0, 1, 3] : List Int))).bind fun t221 => (if t221 = true then (if bt206.2 = 0 then ((league_ProveSchedule.f 4 bt206.1 3).bind fun t222 => (if t222 = true then ((league_ProveSchedule.f 4 bt206.1 2).bind fun t223 => (some (!t223))) else (some false))) else (some false)) else (some false))) else (some false)) else (some false))) else (some false)) else (some false))) else (some false))))))) = some r := H
 have A2 := Aside0.mk A20
 clear A20
 replace H := Option.bind_eq_some_iff.mp H
 obtain ⟨⟨t187, t188⟩, A30, H⟩ := H
 replace H : ((league_After.f t187 t188 (([3, 2] : List Int))).bind fun bt194 => ((kingpinlaw08_played.f).bind fun bt198 => ((league_Reason.f bt198.1 bt198.2 2).bind fun bt202 => ((league_Build.f 4).bind fun bt206 => (if t186 = 0 then ((kingpinlaw08_ints.f k t183 (([1, 1, 3, 4] : List Int))).bind fun t213 => (if t213 = true then (if bt194.2 = 0 then ((kingpinlaw08_ints.f k bt194.1 (([2, 3, 2, 3] : List Int))).bind fun t217 => (if t217 = true then (if bt202.2 = 0 then ((kingpinlaw08_ints.f k bt202.1 (([0, 1, 3] : List Int))).bind fun t221 => (if t221 = true then (if bt206.2 = 0 then ((league_ProveSchedule.f 4 bt206.1 3).bind fun t222 => (if t222 = true then ((league_ProveSchedule.f 4 bt206.1 2).bind fun t223 => (some (!t223))) else (some false))) else (some false)) else (some false))) else (some false)) else (some false))) else (some false)) else (some false))) else (some false)))))) = some r := H
 have A3 := Aside0.mk A30
 clear A30
 obtain ⟨y191, hy191⟩ : ∃ y_ : List Int, y_ = (([3, 2] : List Int)) := ⟨_, rfl⟩
 replace H : ((league_After.f t187 t188 y191).bind fun bt194 => ((kingpinlaw08_played.f).bind fun bt198 => ((league_Reason.f bt198.1 bt198.2 2).bind fun bt202 => ((league_Build.f 4).bind fun bt206 => (if t186 = 0 then ((kingpinlaw08_ints.f k t183 (([1, 1, 3, 4] : List Int))).bind fun t213 => (if t213 = true then (if bt194.2 = 0 then ((kingpinlaw08_ints.f k bt194.1 (([2, 3, 2, 3] : List Int))).bind fun t217 => (if t217 = true then (if bt202.2 = 0 then ((kingpinlaw08_ints.f k bt202.1 (([0, 1, 3] : List Int))).bind fun t221 => (if t221 = true then (if bt206.2 = 0 then ((league_ProveSchedule.f 4 bt206.1 3).bind fun t222 => (if t222 = true then ((league_ProveSchedule.f 4 bt206.1 2).bind fun t223 => (some (!t223))) else (some false))) else (some false)) else (some false))) else (some false)) else (some false))) else (some false)) else (some false))) else (some false)))))) = some r := by first | (rw [hy191]; with_reducible exact H) | (have H2_ := (Option.bind_some _ _).symm.trans H; rw [hy191]; with_reducible exact H2_) | (have H2_ := (Option.bind_some _ _).symm.trans H; with_reducible exact H2_) | with_reducible exact H | (rw [hy191]; exact H) | exact H
 have Ny191 := Aside0.mk hy191
 clear hy191
 replace H := Option.bind_eq_some_iff.mp H
 obtain ⟨⟨t194, t197⟩, A40, H⟩ := H
 replace H : ((kingpinlaw08_played.f).bind fun bt198 => ((league_Reason.f bt198.1 bt198.2 2).bind fun bt202 => ((league_Build.f 4).bind fun bt206 => (if t186 = 0 then ((kingpinlaw08_ints.f k t183 (([1, 1, 3, 4] : List Int))).bind fun t213 => (if t213 = true then (if t197 = 0 then ((kingpinlaw08_ints.f k t194 (([2, 3, 2, 3] : List Int))).bind fun t217 => (if t217 = true then (if bt202.2 = 0 then ((kingpinlaw08_ints.f k bt202.1 (([0, 1, 3] : List Int))).bind fun t221 => (if t221 = true then (if bt206.2 = 0 then ((league_ProveSchedule.f 4 bt206.1 3).bind fun t222 => (if t222 = true then ((league_ProveSchedule.f 4 bt206.1 2).bind fun t223 => (some (!t223))) else (some false))) else (some false)) else (some false))) else (some false)) else (some false))) else (some false)) else (some false))) else (some false))))) = some r := H
 have A4 := Aside0.mk A40
 clear A40
 replace H := Option.bind_eq_some_iff.mp H
 obtain ⟨⟨t198, t199⟩, A50, H⟩ := H
 replace H : ((league_Reason.f t198 t199 2).bind fun bt202 => ((league_Build.f 4).bind fun bt206 => (if t186 = 0 then ((kingpinlaw08_ints.f k t183 (([1, 1, 3, 4] : List Int))).bind fun t213 => (if t213 = true then (if t197 = 0 then ((kingpinlaw08_ints.f k t194 (([2, 3, 2, 3] : List Int))).bind fun t217 => (if t217 = true then (if bt202.2 = 0 then ((kingpinlaw08_ints.f k bt202.1 (([0, 1, 3] : List Int))).bind fun t221 => (if t221 = true then (if bt206.2 = 0 then ((league_ProveSchedule.f 4 bt206.1 3).bind fun t222 => (if t222 = true then ((league_ProveSchedule.f 4 bt206.1 2).bind fun t223 => (some (!t223))) else (some false))) else (some false)) else (some false))) else (some false)) else (some false))) else (some false)) else (some false))) else (some false)))) = some r := H
 have A5 := Aside0.mk A50
 clear A50
 replace H := Option.bind_eq_some_iff.mp H
 obtain ⟨⟨t202, t205⟩, A60, H⟩ := H
 replace H : ((league_Build.f 4).bind fun bt206 => (if t186 = 0 then ((kingpinlaw08_ints.f k t183 (([1, 1, 3, 4] : List Int))).bind fun t213 => (if t213 = true then (if t197 = 0 then ((kingpinlaw08_ints.f k t194 (([2, 3, 2, 3] : List Int))).bind fun t217 => (if t217 = true then (if t205 = 0 then ((kingpinlaw08_ints.f k t202 (([0, 1, 3] : List Int))).bind fun t221 => (if t221 = true then (if bt206.2 = 0 then ((league_ProveSchedule.f 4 bt206.1 3).bind fun t222 => (if t222 = true then ((league_ProveSchedule.f 4 bt206.1 2).bind fun t223 => (some (!t223))) else (some false))) else (some false)) else (some false))) else (some false)) else (some false))) else (some false)) else (some false))) else (some false))) = some r := H
 have A6 := Aside0.mk A60
 clear A60
 replace H := Option.bind_eq_some_iff.mp H
 obtain ⟨⟨t206, t207⟩, A70, H⟩ := H
 replace H : (if t186 = 0 then ((kingpinlaw08_ints.f k t183 (([1, 1, 3, 4] : List Int))).bind fun t213 => (if t213 = true then (if t197 = 0 then ((kingpinlaw08_ints.f k t194 (([2, 3, 2, 3] : List Int))).bind fun t217 => (if t217 = true then (if t205 = 0 then ((kingpinlaw08_ints.f k t202 (([0, 1, 3] : List Int))).bind fun t221 => (if t221 = true then (if t207 = 0 then ((league_ProveSchedule.f 4 t206 3).bind fun t222 => (if t222 = true then ((league_ProveSchedule.f 4 t206 2).bind fun t223 => (some (!t223))) else (some false))) else (some false)) else (some false))) else (some false)) else (some false))) else (some false)) else (some false))) else (some false)) = some r := H
 have A7 := Aside0.mk A70
 clear A70
 by_cases c8 : t186 = 0
 ·
  rw [if_pos c8] at H
  have c8b0 : (t186 == 0) = true := beq_iff_eq.mpr c8
  have c8b1 : (t186 != 0) = false := bne_eq_false_iff_eq.mpr c8
  clear c8
  obtain ⟨y210, hy210⟩ : ∃ y_ : List Int, y_ = (([1, 1, 3, 4] : List Int)) := ⟨_, rfl⟩
  replace H : ((kingpinlaw08_ints.f k t183 y210).bind fun t213 => (if t213 = true then (if t197 = 0 then ((kingpinlaw08_ints.f k t194 (([2, 3, 2, 3] : List Int))).bind fun t217 => (if t217 = true then (if t205 = 0 then ((kingpinlaw08_ints.f k t202 (([0, 1, 3] : List Int))).bind fun t221 => (if t221 = true then (if t207 = 0 then ((league_ProveSchedule.f 4 t206 3).bind fun t222 => (if t222 = true then ((league_ProveSchedule.f 4 t206 2).bind fun t223 => (some (!t223))) else (some false))) else (some false)) else (some false))) else (some false)) else (some false))) else (some false)) else (some false))) = some r := by first | (rw [hy210]; with_reducible exact H) | (have H2_ := (Option.bind_some _ _).symm.trans H; rw [hy210]; with_reducible exact H2_) | (have H2_ := (Option.bind_some _ _).symm.trans H; with_reducible exact H2_) | with_reducible exact H | (rw [hy210]; exact H) | exact H
  have Ny210 := Aside0.mk hy210
  clear hy210
  replace H := Option.bind_eq_some_iff.mp H
  obtain ⟨t213, A90, H⟩ := H
  replace H : (if t213 = true then (if t197 = 0 then ((kingpinlaw08_ints.f k t194 (([2, 3, 2, 3] : List Int))).bind fun t217 => (if t217 = true then (if t205 = 0 then ((kingpinlaw08_ints.f k t202 (([0, 1, 3] : List Int))).bind fun t221 => (if t221 = true then (if t207 = 0 then ((league_ProveSchedule.f 4 t206 3).bind fun t222 => (if t222 = true then ((league_ProveSchedule.f 4 t206 2).bind fun t223 => (some (!t223))) else (some false))) else (some false)) else (some false))) else (some false)) else (some false))) else (some false)) else (some false)) = some r := H
  have A9 := Aside0.mk A90
  clear A90
  by_cases c10 : t213 = true
  ·
   subst c10
   have H1 : (if t197 = 0 then ((kingpinlaw08_ints.f k t194 (([2, 3, 2, 3] : List Int))).bind fun t217 => (if t217 = true then (if t205 = 0 then ((kingpinlaw08_ints.f k t202 (([0, 1, 3] : List Int))).bind fun t221 => (if t221 = true then (if t207 = 0 then ((league_ProveSchedule.f 4 t206 3).bind fun t222 => (if t222 = true then ((league_ProveSchedule.f 4 t206 2).bind fun t223 => (some (!t223))) else (some false))) else (some false)) else (some false))) else (some false)) else (some false))) else (some false)) = some r := by rw [if_pos rfl] at H; exact H
   clear H
   have H := H1
   clear H1
   by_cases c11 : t197 = 0
   ·
    rw [if_pos c11] at H
    have c11b0 : (t197 == 0) = true := beq_iff_eq.mpr c11
    have c11b1 : (t197 != 0) = false := bne_eq_false_iff_eq.mpr c11
    clear c11
    obtain ⟨y214, hy214⟩ : ∃ y_ : List Int, y_ = (([2, 3, 2, 3] : List Int)) := ⟨_, rfl⟩
    replace H : ((kingpinlaw08_ints.f k t194 y214).bind fun t217 => (if t217 = true then (if t205 = 0 then ((kingpinlaw08_ints.f k t202 (([0, 1, 3] : List Int))).bind fun t221 => (if t221 = true then (if t207 = 0 then ((league_ProveSchedule.f 4 t206 3).bind fun t222 => (if t222 = true then ((league_ProveSchedule.f 4 t206 2).bind fun t223 => (some (!t223))) else (some false))) else (some false)) else (some false))) else (some false)) else (some false))) = some r := by first | (rw [hy214]; with_reducible exact H) | (have H2_ := (Option.bind_some _ _).symm.trans H; rw [hy214]; with_reducible exact H2_) | (have H2_ := (Option.bind_some _ _).symm.trans H; with_reducible exact H2_) | with_reducible exact H | (rw [hy214]; exact H) | exact H
    have Ny214 := Aside0.mk hy214
    clear hy214
    replace H := Option.bind_eq_some_iff.mp H
    obtain ⟨t217, A120, H⟩ := H
    replace H : (if t217 = true then (if t205 = 0 then ((kingpinlaw08_ints.f k t202 (([0, 1, 3] : List Int))).bind fun t221 => (if t221 = true then (if t207 = 0 then ((league_ProveSchedule.f 4 t206 3).bind fun t222 => (if t222 = true then ((league_ProveSchedule.f 4 t206 2).bind fun t223 => (some (!t223))) else (some false))) else (some false)) else (some false))) else (some false)) else (some false)) = some r := H
    have A12 := Aside0.mk A120
    clear A120
    by_cases c13 : t217 = true
    ·
     subst c13
     have H1 : (if t205 = 0 then ((kingpinlaw08_ints.f k t202 (([0, 1, 3] : List Int))).bind fun t221 => (if t221 = true then (if t207 = 0 then ((league_ProveSchedule.f 4 t206 3).bind fun t222 => (if t222 = true then ((league_ProveSchedule.f 4 t206 2).bind fun t223 => (some (!t223))) else (some false))) else (some false)) else (some false))) else (some false)) = some r := by rw [if_pos rfl] at H; exact H
     clear H
     have H := H1
     clear H1
     by_cases c14 : t205 = 0
     ·
      rw [if_pos c14] at H
      have c14b0 : (t205 == 0) = true := beq_iff_eq.mpr c14
      have c14b1 : (t205 != 0) = false := bne_eq_false_iff_eq.mpr c14
      clear c14
      obtain ⟨y218, hy218⟩ : ∃ y_ : List Int, y_ = (([0, 1, 3] : List Int)) := ⟨_, rfl⟩
      replace H : ((kingpinlaw08_ints.f k t202 y218).bind fun t221 => (if t221 = true then (if t207 = 0 then ((league_ProveSchedule.f 4 t206 3).bind fun t222 => (if t222 = true then ((league_ProveSchedule.f 4 t206 2).bind fun t223 => (some (!t223))) else (some false))) else (some false)) else (some false))) = some r := by first | (rw [hy218]; with_reducible exact H) | (have H2_ := (Option.bind_some _ _).symm.trans H; rw [hy218]; with_reducible exact H2_) | (have H2_ := (Option.bind_some _ _).symm.trans H; with_reducible exact H2_) | with_reducible exact H | (rw [hy218]; exact H) | exact H
      have Ny218 := Aside0.mk hy218
      clear hy218
      replace H := Option.bind_eq_some_iff.mp H
      obtain ⟨t221, A150, H⟩ := H
      replace H : (if t221 = true then (if t207 = 0 then ((league_ProveSchedule.f 4 t206 3).bind fun t222 => (if t222 = true then ((league_ProveSchedule.f 4 t206 2).bind fun t223 => (some (!t223))) else (some false))) else (some false)) else (some false)) = some r := H
      have A15 := Aside0.mk A150
      clear A150
      by_cases c16 : t221 = true
      ·
       subst c16
       have H1 : (if t207 = 0 then ((league_ProveSchedule.f 4 t206 3).bind fun t222 => (if t222 = true then ((league_ProveSchedule.f 4 t206 2).bind fun t223 => (some (!t223))) else (some false))) else (some false)) = some r := by rw [if_pos rfl] at H; exact H
       clear H
       have H := H1
       clear H1
       by_cases c17 : t207 = 0
       ·
        rw [if_pos c17] at H
        have c17b0 : (t207 == 0) = true := beq_iff_eq.mpr c17
        have c17b1 : (t207 != 0) = false := bne_eq_false_iff_eq.mpr c17
        clear c17
        replace H := Option.bind_eq_some_iff.mp H
        obtain ⟨t222, A180, H⟩ := H
        replace H : (if t222 = true then ((league_ProveSchedule.f 4 t206 2).bind fun t223 => (some (!t223))) else (some false)) = some r := H
        have A18 := Aside0.mk A180
        clear A180
        by_cases c19 : t222 = true
        ·
         subst c19
         have H1 : ((league_ProveSchedule.f 4 t206 2).bind fun t223 => (some (!t223))) = some r := by rw [if_pos rfl] at H; exact H
         clear H
         have H := H1
         clear H1
         replace H := Option.bind_eq_some_iff.mp H
         obtain ⟨t223, A200, H⟩ := H
         replace H : (some (!t223)) = some r := H
         have A20 := Aside0.mk A200
         clear A200
         obtain rfl := Option.some.inj H
         go_enter Try.func16, Try.ntmps16
         go_wp2_with (first | ((with_reducible refine gate_callee (f := 49) rfl ?_); refine goesL_ (some 10) rfl rfl Try.func49 (by kernel_rfl) rfl #[] rfl (by (try simp only [List.map_toArray, List.map_cons, List.map_nil]); first | done | rfl | (simp only [List.length_drop, List.length_take]; rfl)) ?_; (with_reducible refine (kingpinlaw08_played.calls  t176 t177 _ A1.out).mono ?_); rintro e w21 ⟨v178, rfl, ho0, hb⟩; refine ⟨_, rfl, ?_⟩; have n0_ := Aside0.mk (Kd.R_lower ho0 (below_size (by repeat (first | (with_reducible first | exact HB.out | apply below_alloc | apply pw_below_drewN | apply below_drew1) | exact HB.out)))); have n1_ := Aside0.mk (below_step (by repeat (first | (with_reducible first | exact HB.out | apply below_alloc | apply pw_below_drewN | apply below_drew1) | exact HB.out)) hb); clear HB; have HO179 := n0_; have HB := n1_; clear n0_ n1_; (try clear hb); (try clear hb2); (try clear hk); (try clear hi); (try clear ho0)) | ((with_reducible refine gate_dst (N := 11) rfl ?_); (try (refine gate_guard (by rfl) ?_; dsimp only)); refine Kd.R_lit (Kd.int .u8) _ 5 ?hg (N := 11) ?hd (xs := ([1, 3] : List Int)) (inner := [.int .u8 1, .int .u8 3]) (ok := fun _ => True) (okp := fun _ => True) ?hr ?hp (fun _ hk => hk) trivial (Below.refl _ _) (Nat.le_refl _) (by simp) ?_; (case hd => rfl); (case hg => rfl); (case hr => first | (go_simp; done) | (go_simp; rfl)); (case hp => exact (Reps.one (show Kd.M (Kd.int .u8) _ _ _ 1 [.int .u8 1] from rfl) (Reps.one (show Kd.M (Kd.int .u8) _ _ _ 3 [.int .u8 3] from rfl) (Reps.none _ _)))); intro v181 w22 ho23 hb hg_ hnew_; clear hg_ hnew_; (first | rw [← Ny180.out] at ho23 | (simp only [Int.reduceToNat] at ho23; rw [← Ny180.out] at ho23)); have n0_ := Aside0.mk (Kd.R_below (by (with_reducible repeat (first | apply Kd.R_alloc | apply Kd.R_drewN | apply Kd.R_drew)); exact HO179.out) hb); have n1_ := Aside0.mk (Kd.R_lower ho23 (below_size (by repeat (first | (with_reducible first | exact HB.out | apply below_alloc | apply pw_below_drewN | apply below_drew1) | exact HB.out)))); have n2_ := Aside0.mk (below_step (by repeat (first | (with_reducible first | exact HB.out | apply below_alloc | apply pw_below_drewN | apply below_drew1) | exact HB.out)) hb); clear HO179; clear HB; have HO179 := n0_; have HO182 := n1_; have HB := n2_; clear n0_ n1_ n2_; clear hb ho23; obtain ⟨Ao24, co24, eo24⟩ := Kd.R_slice HO179.out; subst eo24; obtain ⟨Ao25, co25, eo25⟩ := Kd.R_slice HO182.out; subst eo25) | ((with_reducible refine gate_callee (f := 19) rfl ?_); refine goesL_ (some 12) rfl rfl Try.func19 (by kernel_rfl) rfl #[.agg #[.int .i64 t176, .slice Ao24 t177.length co24], .slice Ao25 y180.length co25] rfl (by (try simp only [List.map_toArray, List.map_cons, List.map_nil]); first | done | rfl | (simp only [List.length_drop, List.length_take]; rfl)) ?_; (with_reducible refine (league_Rank.calls k t176 _ _ t177 _ _ y180 t183 t186 _ ?side1 ?side2 ?side3 ?side4 A2.out).mono ?_); (case side1 => repeat (first | exact (Kd.R_reads' HO179.out).2.2 | (with_reducible refine Kd.C_alloc ?_ _) | (with_reducible refine Kd.C_drewN ?_ _) | (with_reducible refine Kd.C_drew ?_))); (case side2 => exact (Kd.R_reads' HO179.out).2.1); (case side3 => repeat (first | exact (Kd.R_reads' HO182.out).2.2 | (with_reducible refine Kd.C_alloc ?_ _) | (with_reducible refine Kd.C_drewN ?_ _) | (with_reducible refine Kd.C_drew ?_))); (case side4 => exact (Kd.R_reads' HO182.out).2.1); rintro e w26 ⟨v184, rfl, ho0, hb⟩; refine ⟨_, rfl, ?_⟩; have n0_ := Aside0.mk (Kd.R_below (by (with_reducible repeat (first | apply Kd.R_alloc | apply Kd.R_drewN | apply Kd.R_drew)); exact HO179.out) hb); have n1_ := Aside0.mk (Kd.R_below (by (with_reducible repeat (first | apply Kd.R_alloc | apply Kd.R_drewN | apply Kd.R_drew)); exact HO182.out) hb); have n2_ := Aside0.mk (Kd.R_lower ho0 (below_size (by repeat (first | (with_reducible first | exact HB.out | apply below_alloc | apply pw_below_drewN | apply below_drew1) | exact HB.out)))); have n3_ := Aside0.mk (below_step (by repeat (first | (with_reducible first | exact HB.out | apply below_alloc | apply pw_below_drewN | apply below_drew1) | exact HB.out)) hb); clear HO179; clear HO182; clear HB; have HO179 := n0_; have HO182 := n1_; have HO185 := n2_; have HB := n3_; clear n0_ n1_ n2_ n3_; (try clear hb); (try clear hb2); (try clear hk); (try clear hi); (try clear ho0)) | ((with_reducible refine gate_callee (f := 49) rfl ?_); refine goesL_ (some 16) rfl rfl Try.func49 (by kernel_rfl) rfl #[] rfl (by (try simp only [List.map_toArray, List.map_cons, List.map_nil]); first | done | rfl | (simp only [List.length_drop, List.length_take]; rfl)) ?_; (with_reducible refine (kingpinlaw08_played.calls  t187 t188 _ A3.out).mono ?_); rintro e w27 ⟨v189, rfl, ho0, hb⟩; refine ⟨_, rfl, ?_⟩; have n0_ := Aside0.mk (Kd.R_elder' (by (with_reducible repeat (first | apply Kd.R_alloc | apply Kd.R_drewN | apply Kd.R_drew)); exact HO179.out) (Kd.R_base ho0) hb); have n1_ := Aside0.mk (Kd.R_below (by (with_reducible repeat (first | apply Kd.R_alloc | apply Kd.R_drewN | apply Kd.R_drew)); exact HO182.out) hb); have n2_ := Aside0.mk (Kd.R_below (by (with_reducible repeat (first | apply Kd.R_alloc | apply Kd.R_drewN | apply Kd.R_drew)); exact HO185.out) hb); have n3_ := Aside0.mk (Kd.R_lower (Kd.R_new' ho0 (Kd.R_lt (by (with_reducible repeat (first | apply Kd.R_alloc | apply Kd.R_drewN | apply Kd.R_drew)); exact HO179.out))) (below_size (by repeat (first | (with_reducible first | exact HB.out | apply below_alloc | apply pw_below_drewN | apply below_drew1) | exact HB.out)))); have n4_ := Aside0.mk (below_step (by repeat (first | (with_reducible first | exact HB.out | apply below_alloc | apply pw_below_drewN | apply below_drew1) | exact HB.out)) hb); clear HO179; clear HO182; clear HO185; clear HB; have HO179 := n0_; have HO182 := n1_; have HO185 := n2_; have HO190 := n3_; have HB := n4_; clear n0_ n1_ n2_ n3_ n4_; (try clear hb); (try clear hb2); (try clear hk); (try clear hi); (try clear ho0)) | ((with_reducible refine gate_dst (N := 17) rfl ?_); (try (refine gate_guard (by rfl) ?_; dsimp only)); refine Kd.R_lit (Kd.int .u8) _ 5 ?hg (N := 17) ?hd (xs := ([3, 2] : List Int)) (inner := [.int .u8 3, .int .u8 2]) (ok := fun _ => True) (okp := fun _ => True) ?hr ?hp (fun _ hk => hk) trivial (Below.refl _ _) (Nat.le_refl _) (by simp) ?_; (case hd => rfl); (case hg => rfl); (case hr => first | (go_simp; done) | (go_simp; rfl)); (case hp => exact (Reps.one (show Kd.M (Kd.int .u8) _ _ _ 3 [.int .u8 3] from rfl) (Reps.one (show Kd.M (Kd.int .u8) _ _ _ 2 [.int .u8 2] from rfl) (Reps.none _ _)))); intro v192 w28 ho29 hb hg_ hnew_; clear hg_ hnew_; (first | rw [← Ny191.out] at ho29 | (simp only [Int.reduceToNat] at ho29; rw [← Ny191.out] at ho29)); have n0_ := Aside0.mk (Kd.R_below (by (with_reducible repeat (first | apply Kd.R_alloc | apply Kd.R_drewN | apply Kd.R_drew)); exact HO179.out) hb); have n1_ := Aside0.mk (Kd.R_elder' (by (with_reducible repeat (first | apply Kd.R_alloc | apply Kd.R_drewN | apply Kd.R_drew)); exact HO182.out) (Kd.R_base ho29) hb); have n2_ := Aside0.mk (Kd.R_below (by (with_reducible repeat (first | apply Kd.R_alloc | apply Kd.R_drewN | apply Kd.R_drew)); exact HO185.out) hb); have n3_ := Aside0.mk (Kd.R_below (by (with_reducible repeat (first | apply Kd.R_alloc | apply Kd.R_drewN | apply Kd.R_drew)); exact HO190.out) hb); have n4_ := Aside0.mk (Kd.R_lower (Kd.R_new' ho29 (Kd.R_lt (by (with_reducible repeat (first | apply Kd.R_alloc | apply Kd.R_drewN | apply Kd.R_drew)); exact HO182.out))) (below_size (by repeat (first | (with_reducible first | exact HB.out | apply below_alloc | apply pw_below_drewN | apply below_drew1) | exact HB.out)))); have n5_ := Aside0.mk (below_step (by repeat (first | (with_reducible first | exact HB.out | apply below_alloc | apply pw_below_drewN | apply below_drew1) | exact HB.out)) hb); clear HO179; clear HO182; clear HO185; clear HO190; clear HB; have HO179 := n0_; have HO182 := n1_; have HO185 := n2_; have HO190 := n3_; have HO193 := n4_; have HB := n5_; clear n0_ n1_ n2_ n3_ n4_ n5_; clear hb ho29; obtain ⟨Ao30, co30, eo30⟩ := Kd.R_slice HO190.out; subst eo30; obtain ⟨Ao31, co31, eo31⟩ := Kd.R_slice HO193.out; subst eo31) | ((with_reducible refine gate_callee (f := 25) rfl ?_); refine goesL_ (some 18) rfl rfl Try.func25 (by kernel_rfl) rfl #[.agg #[.int .i64 t187, .slice Ao30 t188.length co30], .slice Ao31 y191.length co31] rfl (by (try simp only [List.map_toArray, List.map_cons, List.map_nil]); first | done | rfl | (simp only [List.length_drop, List.length_take]; rfl)) ?_; (with_reducible refine (league_After.calls t187 _ _ t188 _ _ y191 t194 t197 _ ?side1 ?side2 ?side3 ?side4 A4.out).mono ?_); (case side1 => repeat (first | exact (Kd.R_reads' HO190.out).2.2 | (with_reducible refine Kd.C_alloc ?_ _) | (with_reducible refine Kd.C_drewN ?_ _) | (with_reducible refine Kd.C_drew ?_))); (case side2 => exact (Kd.R_reads' HO190.out).2.1); (case side3 => repeat (first | exact (Kd.R_reads' HO193.out).2.2 | (with_reducible refine Kd.C_alloc ?_ _) | (with_reducible refine Kd.C_drewN ?_ _) | (with_reducible refine Kd.C_drew ?_))); (case side4 => exact (Kd.R_reads' HO193.out).2.1); rintro e w32 ⟨v195, rfl, ho0, hb⟩; refine ⟨_, rfl, ?_⟩; have n0_ := Aside0.mk (Kd.R_below (by (with_reducible repeat (first | apply Kd.R_alloc | apply Kd.R_drewN | apply Kd.R_drew)); exact HO179.out) hb); have n1_ := Aside0.mk (Kd.R_below (by (with_reducible repeat (first | apply Kd.R_alloc | apply Kd.R_drewN | apply Kd.R_drew)); exact HO182.out) hb); have n2_ := Aside0.mk (Kd.R_elder' (by (with_reducible repeat (first | apply Kd.R_alloc | apply Kd.R_drewN | apply Kd.R_drew)); exact HO185.out) (Kd.R_base ho0) hb); have n3_ := Aside0.mk (Kd.R_below (by (with_reducible repeat (first | apply Kd.R_alloc | apply Kd.R_drewN | apply Kd.R_drew)); exact HO190.out) hb); have n4_ := Aside0.mk (Kd.R_below (by (with_reducible repeat (first | apply Kd.R_alloc | apply Kd.R_drewN | apply Kd.R_drew)); exact HO193.out) hb); have n5_ := Aside0.mk (Kd.R_lower (Kd.R_new' ho0 (Kd.R_lt (by (with_reducible repeat (first | apply Kd.R_alloc | apply Kd.R_drewN | apply Kd.R_drew)); exact HO185.out))) (below_size (by repeat (first | (with_reducible first | exact HB.out | apply below_alloc | apply pw_below_drewN | apply below_drew1) | exact HB.out)))); have n6_ := Aside0.mk (below_step (by repeat (first | (with_reducible first | exact HB.out | apply below_alloc | apply pw_below_drewN | apply below_drew1) | exact HB.out)) hb); clear HO179; clear HO182; clear HO185; clear HO190; clear HO193; clear HB; have HO179 := n0_; have HO182 := n1_; have HO185 := n2_; have HO190 := n3_; have HO193 := n4_; have HO196 := n5_; have HB := n6_; clear n0_ n1_ n2_ n3_ n4_ n5_ n6_; (try clear hb); (try clear hb2); (try clear hk); (try clear hi); (try clear ho0)) | ((with_reducible refine gate_callee (f := 49) rfl ?_); refine goesL_ (some 22) rfl rfl Try.func49 (by kernel_rfl) rfl #[] rfl (by (try simp only [List.map_toArray, List.map_cons, List.map_nil]); first | done | rfl | (simp only [List.length_drop, List.length_take]; rfl)) ?_; (with_reducible refine (kingpinlaw08_played.calls  t198 t199 _ A5.out).mono ?_); rintro e w33 ⟨v200, rfl, ho0, hb⟩; refine ⟨_, rfl, ?_⟩; have n0_ := Aside0.mk (Kd.R_elder' (by (with_reducible repeat (first | apply Kd.R_alloc | apply Kd.R_drewN | apply Kd.R_drew)); exact HO179.out) (Kd.R_base ho0) hb); have n1_ := Aside0.mk (Kd.R_below (by (with_reducible repeat (first | apply Kd.R_alloc | apply Kd.R_drewN | apply Kd.R_drew)); exact HO182.out) hb); have n2_ := Aside0.mk (Kd.R_below (by (with_reducible repeat (first | apply Kd.R_alloc | apply Kd.R_drewN | apply Kd.R_drew)); exact HO185.out) hb); have n3_ := Aside0.mk (Kd.R_elder' (by (with_reducible repeat (first | apply Kd.R_alloc | apply Kd.R_drewN | apply Kd.R_drew)); exact HO190.out) (Kd.R_base ho0) hb); have n4_ := Aside0.mk (Kd.R_below (by (with_reducible repeat (first | apply Kd.R_alloc | apply Kd.R_drewN | apply Kd.R_drew)); exact HO193.out) hb); have n5_ := Aside0.mk (Kd.R_below (by (with_reducible repeat (first | apply Kd.R_alloc | apply Kd.R_drewN | apply Kd.R_drew)); exact HO196.out) hb); have n6_ := Aside0.mk (Kd.R_lower (Kd.R_new' (Kd.R_new' ho0 (Kd.R_lt (by (with_reducible repeat (first | apply Kd.R_alloc | apply Kd.R_drewN | apply Kd.R_drew)); exact HO179.out))) (Kd.R_lt (by (with_reducible repeat (first | apply Kd.R_alloc | apply Kd.R_drewN | apply Kd.R_drew)); exact HO190.out))) (below_size (by repeat (first | (with_reducible first | exact HB.out | apply below_alloc | apply pw_below_drewN | apply below_drew1) | exact HB.out)))); have n7_ := Aside0.mk (below_step (by repeat (first | (with_reducible first | exact HB.out | apply below_alloc | apply pw_below_drewN | apply below_drew1) | exact HB.out)) hb); clear HO179; clear HO182; clear HO185; clear HO190; clear HO193; clear HO196; clear HB; have HO179 := n0_; have HO182 := n1_; have HO185 := n2_; have HO190 := n3_; have HO193 := n4_; have HO196 := n5_; have HO201 := n6_; have HB := n7_; clear n0_ n1_ n2_ n3_ n4_ n5_ n6_ n7_; (try clear hb); (try clear hb2); (try clear hk); (try clear hi); (try clear ho0); obtain ⟨Ao34, co34, eo34⟩ := Kd.R_slice HO201.out; subst eo34) | ((with_reducible refine gate_callee (f := 37) rfl ?_); refine goesL_ (some 23) rfl rfl Try.func37 (by kernel_rfl) rfl #[.agg #[.int .i64 t198, .slice Ao34 t199.length co34], .int .i64 2] rfl (by (try simp only [List.map_toArray, List.map_cons, List.map_nil]); first | done | rfl | (simp only [List.length_drop, List.length_take]; rfl)) ?_; (with_reducible refine (league_Reason.calls t198 _ _ t199 2 t202 t205 _ ?side1 ?side2 A6.out).mono ?_); (case side1 => repeat (first | exact (Kd.R_reads' HO201.out).2.2 | (with_reducible refine Kd.C_alloc ?_ _) | (with_reducible refine Kd.C_drewN ?_ _) | (with_reducible refine Kd.C_drew ?_))); (case side2 => exact (Kd.R_reads' HO201.out).2.1); rintro e w35 ⟨v203, rfl, ho0, hb⟩; refine ⟨_, rfl, ?_⟩; have n0_ := Aside0.mk (Kd.R_below (by (with_reducible repeat (first | apply Kd.R_alloc | apply Kd.R_drewN | apply Kd.R_drew)); exact HO179.out) hb); have n1_ := Aside0.mk (Kd.R_below (by (with_reducible repeat (first | apply Kd.R_alloc | apply Kd.R_drewN | apply Kd.R_drew)); exact HO182.out) hb); have n2_ := Aside0.mk (Kd.R_elder' (by (with_reducible repeat (first | apply Kd.R_alloc | apply Kd.R_drewN | apply Kd.R_drew)); exact HO185.out) (Kd.R_base ho0) hb); have n3_ := Aside0.mk (Kd.R_below (by (with_reducible repeat (first | apply Kd.R_alloc | apply Kd.R_drewN | apply Kd.R_drew)); exact HO190.out) hb); have n4_ := Aside0.mk (Kd.R_below (by (with_reducible repeat (first | apply Kd.R_alloc | apply Kd.R_drewN | apply Kd.R_drew)); exact HO193.out) hb); have n5_ := Aside0.mk (Kd.R_elder' (by (with_reducible repeat (first | apply Kd.R_alloc | apply Kd.R_drewN | apply Kd.R_drew)); exact HO196.out) (Kd.R_base ho0) hb); have n6_ := Aside0.mk (Kd.R_below (by (with_reducible repeat (first | apply Kd.R_alloc | apply Kd.R_drewN | apply Kd.R_drew)); exact HO201.out) hb); have n7_ := Aside0.mk (Kd.R_lower (Kd.R_new' (Kd.R_new' ho0 (Kd.R_lt (by (with_reducible repeat (first | apply Kd.R_alloc | apply Kd.R_drewN | apply Kd.R_drew)); exact HO185.out))) (Kd.R_lt (by (with_reducible repeat (first | apply Kd.R_alloc | apply Kd.R_drewN | apply Kd.R_drew)); exact HO196.out))) (below_size (by repeat (first | (with_reducible first | exact HB.out | apply below_alloc | apply pw_below_drewN | apply below_drew1) | exact HB.out)))); have n8_ := Aside0.mk (below_step (by repeat (first | (with_reducible first | exact HB.out | apply below_alloc | apply pw_below_drewN | apply below_drew1) | exact HB.out)) hb); clear HO179; clear HO182; clear HO185; clear HO190; clear HO193; clear HO196; clear HO201; clear HB; have HO179 := n0_; have HO182 := n1_; have HO185 := n2_; have HO190 := n3_; have HO193 := n4_; have HO196 := n5_; have HO201 := n6_; have HO204 := n7_; have HB := n8_; clear n0_ n1_ n2_ n3_ n4_ n5_ n6_ n7_ n8_; (try clear hb); (try clear hb2); (try clear hk); (try clear hi); (try clear ho0)) | ((with_reducible refine gate_callee (f := 29) rfl ?_); refine goesL_ (some 27) rfl rfl Try.func29 (by kernel_rfl) rfl #[.int .i64 4] rfl (by (try simp only [List.map_toArray, List.map_cons, List.map_nil]); first | done | rfl | (simp only [List.length_drop, List.length_take]; rfl)) ?_; (with_reducible refine (league_Build.calls 4 t206 t207 _ A7.out).mono ?_); rintro e w36 ⟨v208, rfl, ho0, hb⟩; refine ⟨_, rfl, ?_⟩; have n0_ := Aside0.mk (Kd.R_below (by (with_reducible repeat (first | apply Kd.R_alloc | apply Kd.R_drewN | apply Kd.R_drew)); exact HO179.out) hb); have n1_ := Aside0.mk (Kd.R_below (by (with_reducible repeat (first | apply Kd.R_alloc | apply Kd.R_drewN | apply Kd.R_drew)); exact HO182.out) hb); have n2_ := Aside0.mk (Kd.R_below (by (with_reducible repeat (first | apply Kd.R_alloc | apply Kd.R_drewN | apply Kd.R_drew)); exact HO185.out) hb); have n3_ := Aside0.mk (Kd.R_below (by (with_reducible repeat (first | apply Kd.R_alloc | apply Kd.R_drewN | apply Kd.R_drew)); exact HO190.out) hb); have n4_ := Aside0.mk (Kd.R_below (by (with_reducible repeat (first | apply Kd.R_alloc | apply Kd.R_drewN | apply Kd.R_drew)); exact HO193.out) hb); have n5_ := Aside0.mk (Kd.R_below (by (with_reducible repeat (first | apply Kd.R_alloc | apply Kd.R_drewN | apply Kd.R_drew)); exact HO196.out) hb); have n6_ := Aside0.mk (Kd.R_below (by (with_reducible repeat (first | apply Kd.R_alloc | apply Kd.R_drewN | apply Kd.R_drew)); exact HO201.out) hb); have n7_ := Aside0.mk (Kd.R_below (by (with_reducible repeat (first | apply Kd.R_alloc | apply Kd.R_drewN | apply Kd.R_drew)); exact HO204.out) hb); have n8_ := Aside0.mk (Kd.S_lower ho0 (below_size (by repeat (first | (with_reducible first | exact HB.out | apply below_alloc | apply pw_below_drewN | apply below_drew1) | exact HB.out)))); have n9_ := Aside0.mk (below_step (by repeat (first | (with_reducible first | exact HB.out | apply below_alloc | apply pw_below_drewN | apply below_drew1) | exact HB.out)) hb); clear HO179; clear HO182; clear HO185; clear HO190; clear HO193; clear HO196; clear HO201; clear HO204; clear HB; have HO179 := n0_; have HO182 := n1_; have HO185 := n2_; have HO190 := n3_; have HO193 := n4_; have HO196 := n5_; have HO201 := n6_; have HO204 := n7_; have HO209 := n8_; have HB := n9_; clear n0_ n1_ n2_ n3_ n4_ n5_ n6_ n7_ n8_ n9_; (try clear hb); (try clear hb2); (try clear hk); (try clear hi); (try clear ho0)) | ((with_reducible refine gate_dst (N := 34) rfl ?_); (try (refine gate_guard (by rfl) ?_; dsimp only)); refine Kd.R_lit (Kd.int .i64) _ 3 ?hg (N := 34) ?hd (xs := ([1, 1, 3, 4] : List Int)) (inner := [.int .i64 1, .int .i64 1, .int .i64 3, .int .i64 4]) (ok := fun _ => True) (okp := fun _ => True) ?hr ?hp (fun _ hk => hk) trivial (Below.refl _ _) (Nat.le_refl _) (by simp) ?_; (case hd => rfl); (case hg => rfl); (case hr => first | (go_simp; done) | (go_simp; rfl)); (case hp => exact (Reps.one (show Kd.M (Kd.int .i64) _ _ _ 1 [.int .i64 1] from rfl) (Reps.one (show Kd.M (Kd.int .i64) _ _ _ 1 [.int .i64 1] from rfl) (Reps.one (show Kd.M (Kd.int .i64) _ _ _ 3 [.int .i64 3] from rfl) (Reps.one (show Kd.M (Kd.int .i64) _ _ _ 4 [.int .i64 4] from rfl) (Reps.none _ _)))))); intro v211 w37 ho38 hb hg_ hnew_; clear hg_ hnew_; (first | rw [← Ny210.out] at ho38 | (simp only [Int.reduceToNat] at ho38; rw [← Ny210.out] at ho38)); have n0_ := Aside0.mk (Kd.R_below (by (with_reducible repeat (first | apply Kd.R_alloc | apply Kd.R_drewN | apply Kd.R_drew)); exact HO179.out) hb); have n1_ := Aside0.mk (Kd.R_below (by (with_reducible repeat (first | apply Kd.R_alloc | apply Kd.R_drewN | apply Kd.R_drew)); exact HO182.out) hb); have n2_ := Aside0.mk (Kd.R_elder' (by (with_reducible repeat (first | apply Kd.R_alloc | apply Kd.R_drewN | apply Kd.R_drew)); exact HO185.out) (Kd.R_base ho38) hb); have n3_ := Aside0.mk (Kd.R_below (by (with_reducible repeat (first | apply Kd.R_alloc | apply Kd.R_drewN | apply Kd.R_drew)); exact HO190.out) hb); have n4_ := Aside0.mk (Kd.R_below (by (with_reducible repeat (first | apply Kd.R_alloc | apply Kd.R_drewN | apply Kd.R_drew)); exact HO193.out) hb); have n5_ := Aside0.mk (Kd.R_elder' (by (with_reducible repeat (first | apply Kd.R_alloc | apply Kd.R_drewN | apply Kd.R_drew)); exact HO196.out) (Kd.R_base ho38) hb); have n6_ := Aside0.mk (Kd.R_below (by (with_reducible repeat (first | apply Kd.R_alloc | apply Kd.R_drewN | apply Kd.R_drew)); exact HO201.out) hb); have n7_ := Aside0.mk (Kd.R_elder' (by (with_reducible repeat (first | apply Kd.R_alloc | apply Kd.R_drewN | apply Kd.R_drew)); exact HO204.out) (Kd.R_base ho38) hb); have n8_ := Aside0.mk (Kd.S_below (by (with_reducible repeat (first | apply Kd.S_alloc | apply Kd.S_drewN | apply Kd.S_drew)); exact HO209.out) hb); have n9_ := Aside0.mk (Kd.R_lower (Kd.R_new' (Kd.R_new' (Kd.R_new' ho38 (Kd.R_lt (by (with_reducible repeat (first | apply Kd.R_alloc | apply Kd.R_drewN | apply Kd.R_drew)); exact HO185.out))) (Kd.R_lt (by (with_reducible repeat (first | apply Kd.R_alloc | apply Kd.R_drewN | apply Kd.R_drew)); exact HO196.out))) (Kd.R_lt (by (with_reducible repeat (first | apply Kd.R_alloc | apply Kd.R_drewN | apply Kd.R_drew)); exact HO204.out))) (below_size (by repeat (first | (with_reducible first | exact HB.out | apply below_alloc | apply pw_below_drewN | apply below_drew1) | exact HB.out)))); have n10_ := Aside0.mk (below_step (by repeat (first | (with_reducible first | exact HB.out | apply below_alloc | apply pw_below_drewN | apply below_drew1) | exact HB.out)) hb); clear HO179; clear HO182; clear HO185; clear HO190; clear HO193; clear HO196; clear HO201; clear HO204; clear HO209; clear HB; have HO179 := n0_; have HO182 := n1_; have HO185 := n2_; have HO190 := n3_; have HO193 := n4_; have HO196 := n5_; have HO201 := n6_; have HO204 := n7_; have HO209 := n8_; have HO212 := n9_; have HB := n10_; clear n0_ n1_ n2_ n3_ n4_ n5_ n6_ n7_ n8_ n9_ n10_; clear hb ho38; obtain ⟨Ao39, co39, eo39⟩ := Kd.R_slice HO185.out; subst eo39; obtain ⟨Ao40, co40, eo40⟩ := Kd.R_slice HO212.out; subst eo40) | (go_at_call 23; (with_reducible refine (kingpinlaw08_ints.calls k _ _ t183 _ _ y210 true _ ?side1 ?side2 ?side3 ?side4 A9.out).mono ?_); (case side1 => repeat (first | exact (Kd.R_reads' HO185.out).2.2 | (with_reducible refine Kd.C_alloc ?_ _) | (with_reducible refine Kd.C_drewN ?_ _) | (with_reducible refine Kd.C_drew ?_))); (case side2 => exact (Kd.R_reads' HO185.out).2.1); (case side3 => repeat (first | exact (Kd.R_reads' HO212.out).2.2 | (with_reducible refine Kd.C_alloc ?_ _) | (with_reducible refine Kd.C_drewN ?_ _) | (with_reducible refine Kd.C_drew ?_))); (case side4 => exact (Kd.R_reads' HO212.out).2.1); rintro e w' ⟨rfl, ⟨nd, rfl⟩⟩) | ((with_reducible refine gate_dst (N := 43) rfl ?_); (try (refine gate_guard (by rfl) ?_; dsimp only)); refine Kd.R_lit (Kd.int .i64) _ 3 ?hg (N := 43) ?hd (xs := ([2, 3, 2, 3] : List Int)) (inner := [.int .i64 2, .int .i64 3, .int .i64 2, .int .i64 3]) (ok := fun _ => True) (okp := fun _ => True) ?hr ?hp (fun _ hk => hk) trivial (Below.refl _ _) (Nat.le_refl _) (by simp) ?_; (case hd => rfl); (case hg => rfl); (case hr => first | (go_simp; done) | (go_simp; rfl)); (case hp => exact (Reps.one (show Kd.M (Kd.int .i64) _ _ _ 2 [.int .i64 2] from rfl) (Reps.one (show Kd.M (Kd.int .i64) _ _ _ 3 [.int .i64 3] from rfl) (Reps.one (show Kd.M (Kd.int .i64) _ _ _ 2 [.int .i64 2] from rfl) (Reps.one (show Kd.M (Kd.int .i64) _ _ _ 3 [.int .i64 3] from rfl) (Reps.none _ _)))))); intro v215 w41 ho42 hb hg_ hnew_; clear hg_ hnew_; (first | rw [← Ny214.out] at ho42 | (simp only [Int.reduceToNat] at ho42; rw [← Ny214.out] at ho42)); have n0_ := Aside0.mk (Kd.R_below (by (with_reducible repeat (first | apply Kd.R_alloc | apply Kd.R_drewN | apply Kd.R_drew)); exact HO179.out) hb); have n1_ := Aside0.mk (Kd.R_below (by (with_reducible repeat (first | apply Kd.R_alloc | apply Kd.R_drewN | apply Kd.R_drew)); exact HO182.out) hb); have n2_ := Aside0.mk (Kd.R_elder' (by (with_reducible repeat (first | apply Kd.R_alloc | apply Kd.R_drewN | apply Kd.R_drew)); exact HO185.out) (Kd.R_base ho42) hb); have n3_ := Aside0.mk (Kd.R_below (by (with_reducible repeat (first | apply Kd.R_alloc | apply Kd.R_drewN | apply Kd.R_drew)); exact HO190.out) hb); have n4_ := Aside0.mk (Kd.R_below (by (with_reducible repeat (first | apply Kd.R_alloc | apply Kd.R_drewN | apply Kd.R_drew)); exact HO193.out) hb); have n5_ := Aside0.mk (Kd.R_elder' (by (with_reducible repeat (first | apply Kd.R_alloc | apply Kd.R_drewN | apply Kd.R_drew)); exact HO196.out) (Kd.R_base ho42) hb); have n6_ := Aside0.mk (Kd.R_below (by (with_reducible repeat (first | apply Kd.R_alloc | apply Kd.R_drewN | apply Kd.R_drew)); exact HO201.out) hb); have n7_ := Aside0.mk (Kd.R_elder' (by (with_reducible repeat (first | apply Kd.R_alloc | apply Kd.R_drewN | apply Kd.R_drew)); exact HO204.out) (Kd.R_base ho42) hb); have n8_ := Aside0.mk (Kd.S_below (by (with_reducible repeat (first | apply Kd.S_alloc | apply Kd.S_drewN | apply Kd.S_drew)); exact HO209.out) hb); have n9_ := Aside0.mk (Kd.R_elder' (by (with_reducible repeat (first | apply Kd.R_alloc | apply Kd.R_drewN | apply Kd.R_drew)); exact HO212.out) (Kd.R_base ho42) hb); have n10_ := Aside0.mk (Kd.R_lower (Kd.R_new' (Kd.R_new' (Kd.R_new' (Kd.R_new' ho42 (Kd.R_lt (by (with_reducible repeat (first | apply Kd.R_alloc | apply Kd.R_drewN | apply Kd.R_drew)); exact HO185.out))) (Kd.R_lt (by (with_reducible repeat (first | apply Kd.R_alloc | apply Kd.R_drewN | apply Kd.R_drew)); exact HO196.out))) (Kd.R_lt (by (with_reducible repeat (first | apply Kd.R_alloc | apply Kd.R_drewN | apply Kd.R_drew)); exact HO204.out))) (Kd.R_lt (by (with_reducible repeat (first | apply Kd.R_alloc | apply Kd.R_drewN | apply Kd.R_drew)); exact HO212.out))) (below_size (by repeat (first | (with_reducible first | exact HB.out | apply below_alloc | apply pw_below_drewN | apply below_drew1) | exact HB.out)))); have n11_ := Aside0.mk (below_step (by repeat (first | (with_reducible first | exact HB.out | apply below_alloc | apply pw_below_drewN | apply below_drew1) | exact HB.out)) hb); clear HO179; clear HO182; clear HO185; clear HO190; clear HO193; clear HO196; clear HO201; clear HO204; clear HO209; clear HO212; clear HB; have HO179 := n0_; have HO182 := n1_; have HO185 := n2_; have HO190 := n3_; have HO193 := n4_; have HO196 := n5_; have HO201 := n6_; have HO204 := n7_; have HO209 := n8_; have HO212 := n9_; have HO216 := n10_; have HB := n11_; clear n0_ n1_ n2_ n3_ n4_ n5_ n6_ n7_ n8_ n9_ n10_ n11_; clear hb ho42; obtain ⟨Ao43, co43, eo43⟩ := Kd.R_slice HO196.out; subst eo43; obtain ⟨Ao44, co44, eo44⟩ := Kd.R_slice HO216.out; subst eo44) | (go_at_call 23; (with_reducible refine (kingpinlaw08_ints.calls k _ _ t194 _ _ y214 true _ ?side1 ?side2 ?side3 ?side4 A12.out).mono ?_); (case side1 => repeat (first | exact (Kd.R_reads' HO196.out).2.2 | (with_reducible refine Kd.C_alloc ?_ _) | (with_reducible refine Kd.C_drewN ?_ _) | (with_reducible refine Kd.C_drew ?_))); (case side2 => exact (Kd.R_reads' HO196.out).2.1); (case side3 => repeat (first | exact (Kd.R_reads' HO216.out).2.2 | (with_reducible refine Kd.C_alloc ?_ _) | (with_reducible refine Kd.C_drewN ?_ _) | (with_reducible refine Kd.C_drew ?_))); (case side4 => exact (Kd.R_reads' HO216.out).2.1); rintro e w' ⟨rfl, ⟨nd, rfl⟩⟩) | ((with_reducible refine gate_dst (N := 52) rfl ?_); (try (refine gate_guard (by rfl) ?_; dsimp only)); refine Kd.R_lit (Kd.int .i64) _ 3 ?hg (N := 52) ?hd (xs := ([0, 1, 3] : List Int)) (inner := [.int .i64 0, .int .i64 1, .int .i64 3]) (ok := fun _ => True) (okp := fun _ => True) ?hr ?hp (fun _ hk => hk) trivial (Below.refl _ _) (Nat.le_refl _) (by simp) ?_; (case hd => rfl); (case hg => rfl); (case hr => first | (go_simp; done) | (go_simp; rfl)); (case hp => exact (Reps.one (show Kd.M (Kd.int .i64) _ _ _ 0 [.int .i64 0] from rfl) (Reps.one (show Kd.M (Kd.int .i64) _ _ _ 1 [.int .i64 1] from rfl) (Reps.one (show Kd.M (Kd.int .i64) _ _ _ 3 [.int .i64 3] from rfl) (Reps.none _ _))))); intro v219 w45 ho46 hb hg_ hnew_; clear hg_ hnew_; (first | rw [← Ny218.out] at ho46 | (simp only [Int.reduceToNat] at ho46; rw [← Ny218.out] at ho46)); have n0_ := Aside0.mk (Kd.R_below (by (with_reducible repeat (first | apply Kd.R_alloc | apply Kd.R_drewN | apply Kd.R_drew)); exact HO179.out) hb); have n1_ := Aside0.mk (Kd.R_below (by (with_reducible repeat (first | apply Kd.R_alloc | apply Kd.R_drewN | apply Kd.R_drew)); exact HO182.out) hb); have n2_ := Aside0.mk (Kd.R_elder' (by (with_reducible repeat (first | apply Kd.R_alloc | apply Kd.R_drewN | apply Kd.R_drew)); exact HO185.out) (Kd.R_base ho46) hb); have n3_ := Aside0.mk (Kd.R_below (by (with_reducible repeat (first | apply Kd.R_alloc | apply Kd.R_drewN | apply Kd.R_drew)); exact HO190.out) hb); have n4_ := Aside0.mk (Kd.R_below (by (with_reducible repeat (first | apply Kd.R_alloc | apply Kd.R_drewN | apply Kd.R_drew)); exact HO193.out) hb); have n5_ := Aside0.mk (Kd.R_elder' (by (with_reducible repeat (first | apply Kd.R_alloc | apply Kd.R_drewN | apply Kd.R_drew)); exact HO196.out) (Kd.R_base ho46) hb); have n6_ := Aside0.mk (Kd.R_below (by (with_reducible repeat (first | apply Kd.R_alloc | apply Kd.R_drewN | apply Kd.R_drew)); exact HO201.out) hb); have n7_ := Aside0.mk (Kd.R_elder' (by (with_reducible repeat (first | apply Kd.R_alloc | apply Kd.R_drewN | apply Kd.R_drew)); exact HO204.out) (Kd.R_base ho46) hb); have n8_ := Aside0.mk (Kd.S_below (by (with_reducible repeat (first | apply Kd.S_alloc | apply Kd.S_drewN | apply Kd.S_drew)); exact HO209.out) hb); have n9_ := Aside0.mk (Kd.R_elder' (by (with_reducible repeat (first | apply Kd.R_alloc | apply Kd.R_drewN | apply Kd.R_drew)); exact HO212.out) (Kd.R_base ho46) hb); have n10_ := Aside0.mk (Kd.R_elder' (by (with_reducible repeat (first | apply Kd.R_alloc | apply Kd.R_drewN | apply Kd.R_drew)); exact HO216.out) (Kd.R_base ho46) hb); have n11_ := Aside0.mk (Kd.R_lower (Kd.R_new' (Kd.R_new' (Kd.R_new' (Kd.R_new' (Kd.R_new' ho46 (Kd.R_lt (by (with_reducible repeat (first | apply Kd.R_alloc | apply Kd.R_drewN | apply Kd.R_drew)); exact HO185.out))) (Kd.R_lt (by (with_reducible repeat (first | apply Kd.R_alloc | apply Kd.R_drewN | apply Kd.R_drew)); exact HO196.out))) (Kd.R_lt (by (with_reducible repeat (first | apply Kd.R_alloc | apply Kd.R_drewN | apply Kd.R_drew)); exact HO204.out))) (Kd.R_lt (by (with_reducible repeat (first | apply Kd.R_alloc | apply Kd.R_drewN | apply Kd.R_drew)); exact HO212.out))) (Kd.R_lt (by (with_reducible repeat (first | apply Kd.R_alloc | apply Kd.R_drewN | apply Kd.R_drew)); exact HO216.out))) (below_size (by repeat (first | (with_reducible first | exact HB.out | apply below_alloc | apply pw_below_drewN | apply below_drew1) | exact HB.out)))); have n12_ := Aside0.mk (below_step (by repeat (first | (with_reducible first | exact HB.out | apply below_alloc | apply pw_below_drewN | apply below_drew1) | exact HB.out)) hb); clear HO179; clear HO182; clear HO185; clear HO190; clear HO193; clear HO196; clear HO201; clear HO204; clear HO209; clear HO212; clear HO216; clear HB; have HO179 := n0_; have HO182 := n1_; have HO185 := n2_; have HO190 := n3_; have HO193 := n4_; have HO196 := n5_; have HO201 := n6_; have HO204 := n7_; have HO209 := n8_; have HO212 := n9_; have HO216 := n10_; have HO220 := n11_; have HB := n12_; clear n0_ n1_ n2_ n3_ n4_ n5_ n6_ n7_ n8_ n9_ n10_ n11_ n12_; clear hb ho46; obtain ⟨Ao47, co47, eo47⟩ := Kd.R_slice HO204.out; subst eo47; obtain ⟨Ao48, co48, eo48⟩ := Kd.R_slice HO220.out; subst eo48) | (go_at_call 23; (with_reducible refine (kingpinlaw08_ints.calls k _ _ t202 _ _ y218 true _ ?side1 ?side2 ?side3 ?side4 A15.out).mono ?_); (case side1 => repeat (first | exact (Kd.R_reads' HO204.out).2.2 | (with_reducible refine Kd.C_alloc ?_ _) | (with_reducible refine Kd.C_drewN ?_ _) | (with_reducible refine Kd.C_drew ?_))); (case side2 => exact (Kd.R_reads' HO204.out).2.1); (case side3 => repeat (first | exact (Kd.R_reads' HO220.out).2.2 | (with_reducible refine Kd.C_alloc ?_ _) | (with_reducible refine Kd.C_drewN ?_ _) | (with_reducible refine Kd.C_drew ?_))); (case side4 => exact (Kd.R_reads' HO220.out).2.1); rintro e w' ⟨rfl, ⟨nd, rfl⟩⟩; obtain ⟨Ao49, co49, eo49⟩ := Kd.S_slice HO209.out; subst eo49) | (go_at_call 31; (with_reducible refine (league_ProveSchedule.calls 4 _ _ t206 3 true _ ?side1 ?side2 A18.out).mono ?_); (case side1 => repeat (first | exact (Kd.S_reads' HO209.out).2.2 | (with_reducible refine Kd.C_alloc ?_ _) | (with_reducible refine Kd.C_drewN ?_ _) | (with_reducible refine Kd.C_drew ?_))); (case side2 => exact (Kd.S_reads' HO209.out).2.1); rintro e w50 ⟨rfl, hb⟩; have n0_ := Aside0.mk (Kd.R_below (by (with_reducible repeat (first | apply Kd.R_alloc | apply Kd.R_drewN | apply Kd.R_drew)); exact HO179.out) hb); have n1_ := Aside0.mk (Kd.R_below (by (with_reducible repeat (first | apply Kd.R_alloc | apply Kd.R_drewN | apply Kd.R_drew)); exact HO182.out) hb); have n2_ := Aside0.mk (Kd.R_below (by (with_reducible repeat (first | apply Kd.R_alloc | apply Kd.R_drewN | apply Kd.R_drew)); exact HO185.out) hb); have n3_ := Aside0.mk (Kd.R_below (by (with_reducible repeat (first | apply Kd.R_alloc | apply Kd.R_drewN | apply Kd.R_drew)); exact HO190.out) hb); have n4_ := Aside0.mk (Kd.R_below (by (with_reducible repeat (first | apply Kd.R_alloc | apply Kd.R_drewN | apply Kd.R_drew)); exact HO193.out) hb); have n5_ := Aside0.mk (Kd.R_below (by (with_reducible repeat (first | apply Kd.R_alloc | apply Kd.R_drewN | apply Kd.R_drew)); exact HO196.out) hb); have n6_ := Aside0.mk (Kd.R_below (by (with_reducible repeat (first | apply Kd.R_alloc | apply Kd.R_drewN | apply Kd.R_drew)); exact HO201.out) hb); have n7_ := Aside0.mk (Kd.R_below (by (with_reducible repeat (first | apply Kd.R_alloc | apply Kd.R_drewN | apply Kd.R_drew)); exact HO204.out) hb); have n8_ := Aside0.mk (Kd.S_below (by (with_reducible repeat (first | apply Kd.S_alloc | apply Kd.S_drewN | apply Kd.S_drew)); exact HO209.out) hb); have n9_ := Aside0.mk (Kd.R_below (by (with_reducible repeat (first | apply Kd.R_alloc | apply Kd.R_drewN | apply Kd.R_drew)); exact HO212.out) hb); have n10_ := Aside0.mk (Kd.R_below (by (with_reducible repeat (first | apply Kd.R_alloc | apply Kd.R_drewN | apply Kd.R_drew)); exact HO216.out) hb); have n11_ := Aside0.mk (Kd.R_below (by (with_reducible repeat (first | apply Kd.R_alloc | apply Kd.R_drewN | apply Kd.R_drew)); exact HO220.out) hb); have n12_ := Aside0.mk (below_step (by repeat (first | (with_reducible first | exact HB.out | apply below_alloc | apply pw_below_drewN | apply below_drew1) | exact HB.out)) hb); clear HO179; clear HO182; clear HO185; clear HO190; clear HO193; clear HO196; clear HO201; clear HO204; clear HO209; clear HO212; clear HO216; clear HO220; clear HB; have HO179 := n0_; have HO182 := n1_; have HO185 := n2_; have HO190 := n3_; have HO193 := n4_; have HO196 := n5_; have HO201 := n6_; have HO204 := n7_; have HO209 := n8_; have HO212 := n9_; have HO216 := n10_; have HO220 := n11_; have HB := n12_; clear n0_ n1_ n2_ n3_ n4_ n5_ n6_ n7_ n8_ n9_ n10_ n11_ n12_; (try clear hb); (try clear hb2); (try clear hk); (try clear hi)) | (go_at_call 31; (with_reducible refine (league_ProveSchedule.calls 4 _ _ t206 2 t223 _ ?side1 ?side2 A20.out).mono ?_); (case side1 => repeat (first | exact (Kd.S_reads' HO209.out).2.2 | (with_reducible refine Kd.C_alloc ?_ _) | (with_reducible refine Kd.C_drewN ?_ _) | (with_reducible refine Kd.C_drew ?_))); (case side2 => exact (Kd.S_reads' HO209.out).2.1); rintro e w51 ⟨rfl, hb⟩; have n0_ := Aside0.mk (Kd.R_below (by (with_reducible repeat (first | apply Kd.R_alloc | apply Kd.R_drewN | apply Kd.R_drew)); exact HO179.out) hb); have n1_ := Aside0.mk (Kd.R_below (by (with_reducible repeat (first | apply Kd.R_alloc | apply Kd.R_drewN | apply Kd.R_drew)); exact HO182.out) hb); have n2_ := Aside0.mk (Kd.R_below (by (with_reducible repeat (first | apply Kd.R_alloc | apply Kd.R_drewN | apply Kd.R_drew)); exact HO185.out) hb); have n3_ := Aside0.mk (Kd.R_below (by (with_reducible repeat (first | apply Kd.R_alloc | apply Kd.R_drewN | apply Kd.R_drew)); exact HO190.out) hb); have n4_ := Aside0.mk (Kd.R_below (by (with_reducible repeat (first | apply Kd.R_alloc | apply Kd.R_drewN | apply Kd.R_drew)); exact HO193.out) hb); have n5_ := Aside0.mk (Kd.R_below (by (with_reducible repeat (first | apply Kd.R_alloc | apply Kd.R_drewN | apply Kd.R_drew)); exact HO196.out) hb); have n6_ := Aside0.mk (Kd.R_below (by (with_reducible repeat (first | apply Kd.R_alloc | apply Kd.R_drewN | apply Kd.R_drew)); exact HO201.out) hb); have n7_ := Aside0.mk (Kd.R_below (by (with_reducible repeat (first | apply Kd.R_alloc | apply Kd.R_drewN | apply Kd.R_drew)); exact HO204.out) hb); have n8_ := Aside0.mk (Kd.S_below (by (with_reducible repeat (first | apply Kd.S_alloc | apply Kd.S_drewN | apply Kd.S_drew)); exact HO209.out) hb); have n9_ := Aside0.mk (Kd.R_below (by (with_reducible repeat (first | apply Kd.R_alloc | apply Kd.R_drewN | apply Kd.R_drew)); exact HO212.out) hb); have n10_ := Aside0.mk (Kd.R_below (by (with_reducible repeat (first | apply Kd.R_alloc | apply Kd.R_drewN | apply Kd.R_drew)); exact HO216.out) hb); have n11_ := Aside0.mk (Kd.R_below (by (with_reducible repeat (first | apply Kd.R_alloc | apply Kd.R_drewN | apply Kd.R_drew)); exact HO220.out) hb); have n12_ := Aside0.mk (below_step (by repeat (first | (with_reducible first | exact HB.out | apply below_alloc | apply pw_below_drewN | apply below_drew1) | exact HB.out)) hb); clear HO179; clear HO182; clear HO185; clear HO190; clear HO193; clear HO196; clear HO201; clear HO204; clear HO209; clear HO212; clear HO216; clear HO220; clear HB; have HO179 := n0_; have HO182 := n1_; have HO185 := n2_; have HO190 := n3_; have HO193 := n4_; have HO196 := n5_; have HO201 := n6_; have HO204 := n7_; have HO209 := n8_; have HO212 := n9_; have HO216 := n10_; have HO220 := n11_; have HB := n12_; clear n0_ n1_ n2_ n3_ n4_ n5_ n6_ n7_ n8_ n9_ n10_ n11_ n12_; (try clear hb); (try clear hb2); (try clear hk); (try clear hi)))
         go_ret
         exact ⟨by first | rfl | (simp [errW_none, errW_some] <;> rfl) | (simp [*, errW_none, errW_some] <;> rfl), by repeat (first | (with_reducible first | exact HB.out | apply below_alloc | apply pw_below_drewN | apply below_drew1) | exact HB.out)⟩
        ·
         rw [if_neg c19] at H
         exact absurd (H.trans (congrArg some hr)) (by simp)
       ·
        rw [if_neg c17] at H
        exact absurd (H.trans (congrArg some hr)) (by simp)
      ·
       rw [if_neg c16] at H
       exact absurd (H.trans (congrArg some hr)) (by simp)
     ·
      rw [if_neg c14] at H
      exact absurd (H.trans (congrArg some hr)) (by simp)
    ·
     rw [if_neg c13] at H
     exact absurd (H.trans (congrArg some hr)) (by simp)
   ·
    rw [if_neg c11] at H
    exact absurd (H.trans (congrArg some hr)) (by simp)
  ·
   rw [if_neg c10] at H
   exact absurd (H.trans (congrArg some hr)) (by simp)
 ·
  rw [if_neg c8] at H
  exact absurd (H.trans (congrArg some hr)) (by simp)
set_option maxRecDepth 100000 in
theorem awake_40 : awakeF 40 = some true := by kernel_rfl
def kingpinlaw08_awake.f : Option Bool := some true
theorem kingpinlaw08_awake.calls (r : Bool) (w : World) (h : kingpinlaw08_awake.f = some r) : Calls Try.prog 16 #[] w fun e w' => e = .returned (.bool r) ∧ Below w.heap.size w w' := by
 obtain rfl := Option.some.inj h
 exact awake_calls 40 true w rfl awake_40
end Go.Proofs.Ytmnamkcjldaoeaa.PAll
namespace Go.Proofs.Ytmnamkcjldaoeaa.PAll
open Go.RowKit Go.Proofs.YtmnamkcjldaoeaaW.PrintWords Go.Proofs.YtmnamkcjldaoeaaW.PrintLast Go.Proofs.YtmnamkcjldaoeaaW.PrintMore
set_option linter.unusedVariables false
set_option linter.unusedSimpArgs false
theorem awake_ev : Ev (fun _ => kingpinlaw08_awake.f) true := Ev.now true
theorem wrapN (n : Nat) (h : n < 4611686018427387904) : wrap64 ((n : Int) + 1) = ((n + 1 : Nat) : Int) := by
 rw [IntWalk.wrap64_in _ ⟨by omega, by omega⟩]
 omega
theorem dropI (l : List Int) (i : Nat) (h : i < l.length) : l.drop i = rd l (i : Int) :: l.drop (i + 1) := by
 rw [List.drop_eq_getElem_cons h]
 congr 1
 unfold rd
 rw [Int.toNat_natCast, List.getD_eq_getElem?_getD, List.getElem?_eq_getElem h, Option.getD_some]
end Go.Proofs.Ytmnamkcjldaoeaa.PAll
namespace Go.Proofs.Ytmnamkcjldaoeaa.PAll
open Go.RowKit Go.Proofs.YtmnamkcjldaoeaaW.PrintWords Go.Proofs.YtmnamkcjldaoeaaW.PrintLast Go.Proofs.YtmnamkcjldaoeaaW.PrintMore
set_option linter.unusedVariables false
set_option linter.unusedSimpArgs false
structure Give where
 a : Int
 x : Int
 b : Int
 y : Int
def Give.ok (m : Nat) (t : Give) : Prop := 0 ≤ t.a ∧ t.a < m ∧ 0 ≤ t.b ∧ t.b < m ∧ 0 ≤ t.x ∧ t.x ≤ 2 ∧ 0 ≤ t.y ∧ t.y ≤ 2
def Give.to (t : Give) (i : Nat) : Int := (if t.a = i then t.x else 0) + (if t.b = i then t.y else 0)
end Go.Proofs.Ytmnamkcjldaoeaa.PAll
namespace Go.Proofs.Ytmnamkcjldaoeaa.PAll
open Go.RowKit Go.Proofs.YtmnamkcjldaoeaaW.PrintWords Go.Proofs.YtmnamkcjldaoeaaW.PrintLast Go.Proofs.YtmnamkcjldaoeaaW.PrintMore
set_option linter.unusedVariables false
set_option linter.unusedSimpArgs false
def readyB (a : Int) (l : List S70) : Bool := decide (l.length ≤ 24) && decide (checkF a (l.map toG) = 0)
theorem word_ok (words : List Int) (hw : ∀ x ∈ words, 0 ≤ x ∧ x ≤ 65535) (hl : words.length ≤ 9223372036854775807) (i : Nat) : ∃ r, kingpinlaw08_word.f words (i : Int) = some r ∧ 0 ≤ r ∧ r ≤ 65535 := by
 unfold kingpinlaw08_word.f
 by_cases h0 : (words.length : Int) = 0
 ·
  exact ⟨0, if_pos h0, by decide, by decide⟩
 ·
  have h1 := Int.tmod_nonneg (a := (i : Int)) (words.length : Int) (by omega)
  have h2 := Int.tmod_lt_of_pos (i : Int) (show (0 : Int) < (words.length : Int) by omega)
  rw [if_neg h0, if_pos h1, if_pos h2]
  obtain ⟨j, hj⟩ : ∃ j : Nat, Int.tmod (i : Int) (words.length : Int) = j := ⟨(Int.tmod (i : Int) (words.length : Int)).toNat, by omega⟩
  rw [hj] at h2 ⊢
  have hm : rd words (j : Int) ∈ words := List.mem_of_mem_drop (i := j) (by rw [dropI words j (by omega)]; exact List.mem_cons_self)
  have hr := hw _ hm
  exact ⟨_, rfl, by rw [IntWalk.wrap64_in _ ⟨by omega, by omega⟩]; exact hr.1, by rw [IntWalk.wrap64_in _ ⟨by omega, by omega⟩]; exact hr.2⟩
end Go.Proofs.Ytmnamkcjldaoeaa.PAll
namespace Go.Proofs.Ytmnamkcjldaoeaa.PAll
open Go.RowKit Go.Proofs.YtmnamkcjldaoeaaW.PrintWords Go.Proofs.YtmnamkcjldaoeaaW.PrintLast Go.Proofs.YtmnamkcjldaoeaaW.PrintMore
attribute [local go_sem] max2_int min2_int max_two min_two max_three min_three max_four min_four   -- for this text's walks alone
set_option linter.unusedVariables false
set_option linter.unusedSimpArgs false
mutual
def kingpinlaw08_LeagueEvenest.j0 : Nat → List Int → Int → List (List (S57)) → Int → Bool → Option (Bool)
 | 0, _, _, _, _, _ => none
 | k + 1, x2, x7, x8, x10, x68 => if x68 = true then (some false) else ((kingpinlaw08_word.f x2 0).bind fun t330 => (if x7 = 0 then (none) else (kingpinlaw08_LeagueEvenest.l0 k x2 x7 x8 x10 ([] : List (List (S57))) (Int.tmod t330 x7) 0)))
def kingpinlaw08_LeagueEvenest.l0 : Nat → List Int → Int → List (List (S57)) → Int → List (List (S57)) → Int → Int → Option (Bool)
 | 0, _, _, _, _, _, _, _ => none
 | k + 1, x2, x7, x8, x10, x12, x13, x14 => if x14 < (x8.length : Int) then ((kingpinlaw08_word.f x2 (wrap64 (x14 + 1))).bind fun t334 => (if (wrap64 (Int.tdiv x7 2)) = 0 then (none) else (kingpinlaw08_LeagueEvenest.l1 k x2 x7 x8 x10 x12 x13 x14 (Int.tmod t334 (wrap64 (Int.tdiv x7 2))) ([] : List (S57)) 0))) else ((league_Uneven.f x7 x12).bind fun bt331 => (if bt331.2 = 0 then (if bt331.1 ≥ x10 then ((kingpinlaw08_awake.f).bind fun t333 => (some t333)) else (some false)) else (some false)))
def kingpinlaw08_LeagueEvenest.l1 : Nat → List Int → Int → List (List (S57)) → Int → List (List (S57)) → Int → Int → Int → List (S57) → Int → Option (Bool)
 | 0, _, _, _, _, _, _, _, _, _, _ => none
 | k + 1, x2, x7, x8, x10, x12, x13, x14, x15, x16, x17 => if 0 ≤ x14 then (if x14 < (x8.length : Int) then (if x17 < ((rd_L7 x8 x14).length : Int) then (if 0 ≤ x17 then (if x7 = 0 then (none) else (if (wrap64 (Int.tdiv x7 2)) = 0 then (none) else (if x16.length < 5864062014805 then (kingpinlaw08_LeagueEvenest.l1 k x2 x7 x8 x10 x12 x13 x14 x15 (x16 ++ [(⟨mn (Int.tmod (wrap64 (((rd_T57 (rd_L7 x8 x14) x17).f0) + x13)) x7) (Int.tmod (wrap64 (((rd_T57 (rd_L7 x8 x14) x17).f1) + x13)) x7), mx (Int.tmod (wrap64 (((rd_T57 (rd_L7 x8 x14) x17).f0) + x13)) x7) (Int.tmod (wrap64 (((rd_T57 (rd_L7 x8 x14) x17).f1) + x13)) x7), Int.tmod (wrap64 (((rd_T57 (rd_L7 x8 x14) x17).f2) + x15)) (wrap64 (Int.tdiv x7 2))⟩ : S57)]) (wrap64 (x17 + 1))) else (none)))) else (none)) else (if x12.length < 5864062014805 then (kingpinlaw08_LeagueEvenest.l0 k x2 x7 x8 x10 (x12 ++ [x16]) x13 (wrap64 (x14 + 1))) else (none))) else (none)) else (none)
end
def kingpinlaw08_LeagueEvenest.f (k : Nat) (a0 : Int) (l1 : List (List (S114))) (l2 : List Int) : Option (Bool) := (kingpinlaw08_Short.f k l1).bind fun t316 => (if t316 = true then ((league_Build.f (wrap64 (2 + (Int.tmod (wrap64 (a0)) 5)))).bind fun bt318 => ((league_Uneven.f (wrap64 (2 + (Int.tmod (wrap64 (a0)) 5))) bt318.1).bind fun bt322 => (if bt318.2 = 0 then (if bt322.2 = 0 then ((league_ProveSchedule.f (wrap64 (2 + (Int.tmod (wrap64 (a0)) 5))) bt318.1 bt322.1).bind fun t324 => (if t324 = true then ((league_ProveSchedule.f (wrap64 (2 + (Int.tmod (wrap64 (a0)) 5))) bt318.1 (wrap64 (bt322.1 - 1))).bind fun t325 => (if t325 = true then (kingpinlaw08_LeagueEvenest.j0 k l2 (wrap64 (2 + (Int.tmod (wrap64 (a0)) 5))) bt318.1 bt322.1 true) else ((kingpinlaw08_Schedule.f k l1).bind fun t326 => ((league_ProveSchedule.f (wrap64 (2 + (Int.tmod (wrap64 (a0)) 5))) t326 (wrap64 (bt322.1 - 1))).bind fun t329 => (kingpinlaw08_LeagueEvenest.j0 k l2 (wrap64 (2 + (Int.tmod (wrap64 (a0)) 5))) bt318.1 bt322.1 t329))))) else (kingpinlaw08_LeagueEvenest.j0 k l2 (wrap64 (2 + (Int.tmod (wrap64 (a0)) 5))) bt318.1 bt322.1 true))) else (kingpinlaw08_LeagueEvenest.j0 k l2 (wrap64 (2 + (Int.tmod (wrap64 (a0)) 5))) bt318.1 bt322.1 true)) else (kingpinlaw08_LeagueEvenest.j0 k l2 (wrap64 (2 + (Int.tmod (wrap64 (a0)) 5))) bt318.1 bt322.1 true)))) else ((kingpinlaw08_awake.f).bind fun t317 => (some t317)))
set_option maxHeartbeats 8000000 in
set_option maxRecDepth 100000 in
theorem kingpinlaw08_LeagueEvenest.calls (k : Nat) (a0 : Int) (A1 : Option Addr) (c1 : Nat) (l1 : List (List (S114))) (A2 : Option Addr) (c2 : Nat) (l2 : List Int) (r : Bool) (w : World) (hr1 : Kd.C (Kd.slice 114 k114) w A1 l1.length l1) (hc1 : l1.length ≤ c1) (hr2 : Kd.C (Kd.int .u16) w A2 l2.length l2) (hc2 : l2.length ≤ c2) (h : kingpinlaw08_LeagueEvenest.f k a0 l1 l2 = some r) :
  Calls Try.prog 5 #[.int .u8 a0, .slice A1 l1.length c1, .slice A2 l2.length c2] w fun e w' => e = .returned (.bool r) ∧ Below w.heap.size w w' := by
 have hu57 := Try.underlying57
 have HR1 := Aside0.mk hr1
 have HC1 := Aside0.mk hc1
 clear hr1 hc1
 have HR2 := Aside0.mk hr2
 have HC2 := Aside0.mk hc2
 clear hr2 hc2
 have HB := Aside0.mk (Below.refl w.heap.size w)
 have H : ((kingpinlaw08_Short.f k l1).bind fun t316 => (if t316 = true then ((league_Build.f (wrap64 (2 + (Int.tmod (wrap64 (a0)) 5)))).bind fun bt318 => ((league_Uneven.f (wrap64 (2 + (Int.tmod (wrap64 (a0)) 5))) bt318.1).bind fun bt322 => (if bt318.2 = 0 then (if bt322.2 = 0 then ((league_ProveSchedule.f (wrap64 (2 + (Int.tmod (wrap64 (a0)) 5))) bt318.1 bt322.1).bind fun t324 => (if t324 = true then ((league_ProveSchedule.f (wrap64 (2 + (Int.tmod (wrap64 (a0)) 5))) bt318.1 (wrap64 (bt322.1 - 1))).bind fun t325 => (if t325 = true then (kingpinlaw08_LeagueEvenest.j0 k l2 (wrap64 (2 + (Int.tmod (wrap64 (a0)) 5))) bt318.1 bt322.1 true) else ((kingpinlaw08_Schedule.f k l1).bind fun t326 => ((league_ProveSchedule.f (wrap64 (2 + (Int.tmod (wrap64 (a0)) 5))) t326 (wrap64 (bt322.1 - 1))).bind fun t329 => (kingpinlaw08_LeagueEvenest.j0 k l2 (wrap64 (2 + (Int.tmod (wrap64 (a0)) 5))) bt318.1 bt322.1 t329))))) else (kingpinlaw08_LeagueEvenest.j0 k l2 (wrap64 (2 + (Int.tmod (wrap64 (a0)) 5))) bt318.1 bt322.1 true))) else (kingpinlaw08_LeagueEvenest.j0 k l2 (wrap64 (2 + (Int.tmod (wrap64 (a0)) 5))) bt318.1 bt322.1 true)) else (kingpinlaw08_LeagueEvenest.j0 k l2 (wrap64 (2 + (Int.tmod (wrap64 (a0)) 5))) bt318.1 bt322.1 true)))) else ((kingpinlaw08_awake.f).bind fun t317 => (some t317)))) = some r := h
 clear h
 replace H := Option.bind_eq_some_iff.mp H
 obtain ⟨t316, A40, H⟩ := H
 replace H : (if t316 = true then ((league_Build.f (wrap64 (2 + (Int.tmod (wrap64 (a0)) 5)))).bind fun bt318 => ((league_Uneven.f (wrap64 (2 + (Int.tmod (wrap64 (a0)) 5))) bt318.1).bind fun bt322 => (if bt318.2 = 0 then (if bt322.2 = 0 then ((league_ProveSchedule.f (wrap64 (2 + (Int.tmod (wrap64 (a0)) 5))) bt318.1 bt322.1).bind fun t324 => (if t324 = true then ((league_ProveSchedule.f (wrap64 (2 + (Int.tmod (wrap64 (a0)) 5))) bt318.1 (wrap64 (bt322.1 - 1))).bind fun t325 => (if t325 = true then (kingpinlaw08_LeagueEvenest.j0 k l2 (wrap64 (2 + (Int.tmod (wrap64 (a0)) 5))) bt318.1 bt322.1 true) else ((kingpinlaw08_Schedule.f k l1).bind fun t326 => ((league_ProveSchedule.f (wrap64 (2 + (Int.tmod (wrap64 (a0)) 5))) t326 (wrap64 (bt322.1 - 1))).bind fun t329 => (kingpinlaw08_LeagueEvenest.j0 k l2 (wrap64 (2 + (Int.tmod (wrap64 (a0)) 5))) bt318.1 bt322.1 t329))))) else (kingpinlaw08_LeagueEvenest.j0 k l2 (wrap64 (2 + (Int.tmod (wrap64 (a0)) 5))) bt318.1 bt322.1 true))) else (kingpinlaw08_LeagueEvenest.j0 k l2 (wrap64 (2 + (Int.tmod (wrap64 (a0)) 5))) bt318.1 bt322.1 true)) else (kingpinlaw08_LeagueEvenest.j0 k l2 (wrap64 (2 + (Int.tmod (wrap64 (a0)) 5))) bt318.1 bt322.1 true)))) else ((kingpinlaw08_awake.f).bind fun t317 => (some t317))) = some r := H
 have A4 := Aside0.mk A40
 clear A40
 by_cases c5 : t316 = true
 ·
  subst c5
  have H1 : ((league_Build.f (wrap64 (2 + (Int.tmod (wrap64 (a0)) 5)))).bind fun bt318 => ((league_Uneven.f (wrap64 (2 + (Int.tmod (wrap64 (a0)) 5))) bt318.1).bind fun bt322 => (if bt318.2 = 0 then (if bt322.2 = 0 then ((league_ProveSchedule.f (wrap64 (2 + (Int.tmod (wrap64 (a0)) 5))) bt318.1 bt322.1).bind fun t324 => (if t324 = true then ((league_ProveSchedule.f (wrap64 (2 + (Int.tmod (wrap64 (a0)) 5))) bt318.1 (wrap64 (bt322.1 - 1))).bind fun t325 => (if t325 = true then (kingpinlaw08_LeagueEvenest.j0 k l2 (wrap64 (2 + (Int.tmod (wrap64 (a0)) 5))) bt318.1 bt322.1 true) else ((kingpinlaw08_Schedule.f k l1).bind fun t326 => ((league_ProveSchedule.f (wrap64 (2 + (Int.tmod (wrap64 (a0)) 5))) t326 (wrap64 (bt322.1 - 1))).bind fun t329 => (kingpinlaw08_LeagueEvenest.j0 k l2 (wrap64 (2 + (Int.tmod (wrap64 (a0)) 5))) bt318.1 bt322.1 t329))))) else (kingpinlaw08_LeagueEvenest.j0 k l2 (wrap64 (2 + (Int.tmod (wrap64 (a0)) 5))) bt318.1 bt322.1 true))) else (kingpinlaw08_LeagueEvenest.j0 k l2 (wrap64 (2 + (Int.tmod (wrap64 (a0)) 5))) bt318.1 bt322.1 true)) else (kingpinlaw08_LeagueEvenest.j0 k l2 (wrap64 (2 + (Int.tmod (wrap64 (a0)) 5))) bt318.1 bt322.1 true)))) = some r := by rw [if_pos rfl] at H; exact H
  clear H
  have H := H1
  clear H1
  replace H := Option.bind_eq_some_iff.mp H
  obtain ⟨⟨t318, t319⟩, A60, H⟩ := H
  replace H : ((league_Uneven.f (wrap64 (2 + (Int.tmod (wrap64 (a0)) 5))) t318).bind fun bt322 => (if t319 = 0 then (if bt322.2 = 0 then ((league_ProveSchedule.f (wrap64 (2 + (Int.tmod (wrap64 (a0)) 5))) t318 bt322.1).bind fun t324 => (if t324 = true then ((league_ProveSchedule.f (wrap64 (2 + (Int.tmod (wrap64 (a0)) 5))) t318 (wrap64 (bt322.1 - 1))).bind fun t325 => (if t325 = true then (kingpinlaw08_LeagueEvenest.j0 k l2 (wrap64 (2 + (Int.tmod (wrap64 (a0)) 5))) t318 bt322.1 true) else ((kingpinlaw08_Schedule.f k l1).bind fun t326 => ((league_ProveSchedule.f (wrap64 (2 + (Int.tmod (wrap64 (a0)) 5))) t326 (wrap64 (bt322.1 - 1))).bind fun t329 => (kingpinlaw08_LeagueEvenest.j0 k l2 (wrap64 (2 + (Int.tmod (wrap64 (a0)) 5))) t318 bt322.1 t329))))) else (kingpinlaw08_LeagueEvenest.j0 k l2 (wrap64 (2 + (Int.tmod (wrap64 (a0)) 5))) t318 bt322.1 true))) else (kingpinlaw08_LeagueEvenest.j0 k l2 (wrap64 (2 + (Int.tmod (wrap64 (a0)) 5))) t318 bt322.1 true)) else (kingpinlaw08_LeagueEvenest.j0 k l2 (wrap64 (2 + (Int.tmod (wrap64 (a0)) 5))) t318 bt322.1 true))) = some r := H
  have A6 := Aside0.mk A60
  clear A60
  replace H := Option.bind_eq_some_iff.mp H
  obtain ⟨⟨t322, t323⟩, A70, H⟩ := H
  replace H : (if t319 = 0 then (if t323 = 0 then ((league_ProveSchedule.f (wrap64 (2 + (Int.tmod (wrap64 (a0)) 5))) t318 t322).bind fun t324 => (if t324 = true then ((league_ProveSchedule.f (wrap64 (2 + (Int.tmod (wrap64 (a0)) 5))) t318 (wrap64 (t322 - 1))).bind fun t325 => (if t325 = true then (kingpinlaw08_LeagueEvenest.j0 k l2 (wrap64 (2 + (Int.tmod (wrap64 (a0)) 5))) t318 t322 true) else ((kingpinlaw08_Schedule.f k l1).bind fun t326 => ((league_ProveSchedule.f (wrap64 (2 + (Int.tmod (wrap64 (a0)) 5))) t326 (wrap64 (t322 - 1))).bind fun t329 => (kingpinlaw08_LeagueEvenest.j0 k l2 (wrap64 (2 + (Int.tmod (wrap64 (a0)) 5))) t318 t322 t329))))) else (kingpinlaw08_LeagueEvenest.j0 k l2 (wrap64 (2 + (Int.tmod (wrap64 (a0)) 5))) t318 t322 true))) else (kingpinlaw08_LeagueEvenest.j0 k l2 (wrap64 (2 + (Int.tmod (wrap64 (a0)) 5))) t318 t322 true)) else (kingpinlaw08_LeagueEvenest.j0 k l2 (wrap64 (2 + (Int.tmod (wrap64 (a0)) 5))) t318 t322 true)) = some r := H
  have A7 := Aside0.mk A70
  clear A70
  have HC8 := Aside0.mk H
  clear H
  go_enter Try.func5, Try.ntmps5
  go_upto_region 6 with (first | (go_at_call 28; (with_reducible refine (kingpinlaw08_Short.calls k _ _ l1 true _ ?side1 ?side2 A4.out).mono ?_); (case side1 => repeat (first | exact HR1.out | (with_reducible refine Kd.C_alloc ?_ _) | (with_reducible refine Kd.C_drewN ?_ _) | (with_reducible refine Kd.C_drew ?_))); (case side2 => exact HC1.out); rintro e w' ⟨rfl, ⟨nd, rfl⟩⟩; (try first | exact ⟨rfl, _, World.drewN_drewN _ _ _⟩ | exact ⟨rfl, _, Eq.trans (World.drewN_drewN _ _ _) (congrArg (World.drewN _) (Nat.add_assoc _ _ _))⟩)) | (go_at_call 29; (with_reducible refine (league_Build.calls (wrap64 (2 + (Int.tmod (wrap64 (a0)) 5))) t318 t319 _ A6.out).mono ?_); rintro e w9 ⟨v320, rfl, ho0, hb⟩; have n0_ := Aside0.mk (Kd.S_lower ho0 (below_size (by repeat (first | (with_reducible first | exact HB.out | apply below_alloc | apply pw_below_drewN | apply below_drew1) | exact HB.out)))); have n1_ := Aside0.mk (below_step (by repeat (first | (with_reducible first | exact HB.out | apply below_alloc | apply pw_below_drewN | apply below_drew1) | exact HB.out)) hb); clear HB; have HO321 := n0_; have HB := n1_; clear n0_ n1_; (try clear hb); (try clear hb2); (try clear hk); (try clear hi); (try clear ho0); obtain ⟨Ao10, co10, eo10⟩ := Kd.S_slice HO321.out; subst eo10) | (go_at_call 30; (with_reducible refine (league_Uneven.calls (wrap64 (2 + (Int.tmod (wrap64 (a0)) 5))) _ _ t318 t322 t323 _ ?side1 ?side2 A7.out).mono ?_); (case side1 => repeat (first | exact (Kd.S_reads' HO321.out).2.2 | (with_reducible refine Kd.C_alloc ?_ _) | (with_reducible refine Kd.C_drewN ?_ _) | (with_reducible refine Kd.C_drew ?_))); (case side2 => exact (Kd.S_reads' HO321.out).2.1); rintro e w11 ⟨rfl, hb⟩; have n0_ := Aside0.mk (Kd.S_below (by (with_reducible repeat (first | apply Kd.S_alloc | apply Kd.S_drewN | apply Kd.S_drew)); exact HO321.out) hb); have n1_ := Aside0.mk (below_step (by repeat (first | (with_reducible first | exact HB.out | apply below_alloc | apply pw_below_drewN | apply below_drew1) | exact HB.out)) hb); clear HO321; clear HB; have HO321 := n0_; have HB := n1_; clear n0_ n1_; (try clear hb); (try clear hb2); (try clear hk); (try clear hi)))
  repeat (go_quiet (first | (go_at_call 28; (with_reducible refine (kingpinlaw08_Short.calls k _ _ l1 true _ ?side1 ?side2 A4.out).mono ?_); (case side1 => repeat (first | exact HR1.out | (with_reducible refine Kd.C_alloc ?_ _) | (with_reducible refine Kd.C_drewN ?_ _) | (with_reducible refine Kd.C_drew ?_))); (case side2 => exact HC1.out); rintro e w' ⟨rfl, ⟨nd, rfl⟩⟩; (try first | exact ⟨rfl, _, World.drewN_drewN _ _ _⟩ | exact ⟨rfl, _, Eq.trans (World.drewN_drewN _ _ _) (congrArg (World.drewN _) (Nat.add_assoc _ _ _))⟩)) | (go_at_call 29; (with_reducible refine (league_Build.calls (wrap64 (2 + (Int.tmod (wrap64 (a0)) 5))) t318 t319 _ A6.out).mono ?_); rintro e w9 ⟨v320, rfl, ho0, hb⟩; have n0_ := Aside0.mk (Kd.S_lower ho0 (below_size (by repeat (first | (with_reducible first | exact HB.out | apply below_alloc | apply pw_below_drewN | apply below_drew1) | exact HB.out)))); have n1_ := Aside0.mk (below_step (by repeat (first | (with_reducible first | exact HB.out | apply below_alloc | apply pw_below_drewN | apply below_drew1) | exact HB.out)) hb); clear HB; have HO321 := n0_; have HB := n1_; clear n0_ n1_; (try clear hb); (try clear hb2); (try clear hk); (try clear hi); (try clear ho0); obtain ⟨Ao10, co10, eo10⟩ := Kd.S_slice HO321.out; subst eo10) | (go_at_call 30; (with_reducible refine (league_Uneven.calls (wrap64 (2 + (Int.tmod (wrap64 (a0)) 5))) _ _ t318 t322 t323 _ ?side1 ?side2 A7.out).mono ?_); (case side1 => repeat (first | exact (Kd.S_reads' HO321.out).2.2 | (with_reducible refine Kd.C_alloc ?_ _) | (with_reducible refine Kd.C_drewN ?_ _) | (with_reducible refine Kd.C_drew ?_))); (case side2 => exact (Kd.S_reads' HO321.out).2.1); rintro e w11 ⟨rfl, hb⟩; have n0_ := Aside0.mk (Kd.S_below (by (with_reducible repeat (first | apply Kd.S_alloc | apply Kd.S_drewN | apply Kd.S_drew)); exact HO321.out) hb); have n1_ := Aside0.mk (below_step (by repeat (first | (with_reducible first | exact HB.out | apply below_alloc | apply pw_below_drewN | apply below_drew1) | exact HB.out)) hb); clear HO321; clear HB; have HO321 := n0_; have HB := n1_; clear n0_ n1_; (try clear hb); (try clear hb2); (try clear hk); (try clear hi))); go_upto_region 6 with (first | (go_at_call 28; (with_reducible refine (kingpinlaw08_Short.calls k _ _ l1 true _ ?side1 ?side2 A4.out).mono ?_); (case side1 => repeat (first | exact HR1.out | (with_reducible refine Kd.C_alloc ?_ _) | (with_reducible refine Kd.C_drewN ?_ _) | (with_reducible refine Kd.C_drew ?_))); (case side2 => exact HC1.out); rintro e w' ⟨rfl, ⟨nd, rfl⟩⟩; (try first | exact ⟨rfl, _, World.drewN_drewN _ _ _⟩ | exact ⟨rfl, _, Eq.trans (World.drewN_drewN _ _ _) (congrArg (World.drewN _) (Nat.add_assoc _ _ _))⟩)) | (go_at_call 29; (with_reducible refine (league_Build.calls (wrap64 (2 + (Int.tmod (wrap64 (a0)) 5))) t318 t319 _ A6.out).mono ?_); rintro e w9 ⟨v320, rfl, ho0, hb⟩; have n0_ := Aside0.mk (Kd.S_lower ho0 (below_size (by repeat (first | (with_reducible first | exact HB.out | apply below_alloc | apply pw_below_drewN | apply below_drew1) | exact HB.out)))); have n1_ := Aside0.mk (below_step (by repeat (first | (with_reducible first | exact HB.out | apply below_alloc | apply pw_below_drewN | apply below_drew1) | exact HB.out)) hb); clear HB; have HO321 := n0_; have HB := n1_; clear n0_ n1_; (try clear hb); (try clear hb2); (try clear hk); (try clear hi); (try clear ho0); obtain ⟨Ao10, co10, eo10⟩ := Kd.S_slice HO321.out; subst eo10) | (go_at_call 30; (with_reducible refine (league_Uneven.calls (wrap64 (2 + (Int.tmod (wrap64 (a0)) 5))) _ _ t318 t322 t323 _ ?side1 ?side2 A7.out).mono ?_); (case side1 => repeat (first | exact (Kd.S_reads' HO321.out).2.2 | (with_reducible refine Kd.C_alloc ?_ _) | (with_reducible refine Kd.C_drewN ?_ _) | (with_reducible refine Kd.C_drew ?_))); (case side2 => exact (Kd.S_reads' HO321.out).2.1); rintro e w11 ⟨rfl, hb⟩; have n0_ := Aside0.mk (Kd.S_below (by (with_reducible repeat (first | apply Kd.S_alloc | apply Kd.S_drewN | apply Kd.S_drew)); exact HO321.out) hb); have n1_ := Aside0.mk (below_step (by repeat (first | (with_reducible first | exact HB.out | apply below_alloc | apply pw_below_drewN | apply below_drew1) | exact HB.out)) hb); clear HO321; clear HB; have HO321 := n0_; have HB := n1_; clear n0_ n1_; (try clear hb); (try clear hb2); (try clear hk); (try clear hi))))
  (try simp only [Act.put, List.setIfInBounds_toArray, List.set_cons_zero, List.set_cons_succ])
  go_cut [68] (fun v68 wc => ∃ (kq : Nat) (x68_7 : Bool), v68 = .bool x68_7 ∧ Aside0 (kingpinlaw08_LeagueEvenest.j0 kq l2 (wrap64 (2 + (Int.tmod (wrap64 (a0)) 5))) t318 t322 x68_7 = some r) ∧ Aside0 (kq ≤ k) ∧ Aside0 (Kd.S (Kd.slice 57 k57) 55 wc w.heap.size (fun _ => True) (.slice Ao10 t318.length co10) t318) ∧ Aside0 (Below w.heap.size w wc))
  case first =>
   have H := HC8.out
   clear HC8
   by_cases c12 : t319 = 0
   ·
    rw [if_pos c12] at H
    have c12b0 : (t319 == 0) = true := beq_iff_eq.mpr c12
    have c12b1 : (t319 != 0) = false := bne_eq_false_iff_eq.mpr c12
    clear c12
    (first | rw [c12b0] | (simp only [i64_w, i32_w]; rw [c12b0]) | skip)
    by_cases c13 : t323 = 0
    ·
     rw [if_pos c13] at H
     have c13b0 : (t323 == 0) = true := beq_iff_eq.mpr c13
     have c13b1 : (t323 != 0) = false := bne_eq_false_iff_eq.mpr c13
     clear c13
     replace H := Option.bind_eq_some_iff.mp H
     obtain ⟨t324, A140, H⟩ := H
     replace H : (if t324 = true then ((league_ProveSchedule.f (wrap64 (2 + (Int.tmod (wrap64 (a0)) 5))) t318 (wrap64 (t322 - 1))).bind fun t325 => (if t325 = true then (kingpinlaw08_LeagueEvenest.j0 k l2 (wrap64 (2 + (Int.tmod (wrap64 (a0)) 5))) t318 t322 true) else ((kingpinlaw08_Schedule.f k l1).bind fun t326 => ((league_ProveSchedule.f (wrap64 (2 + (Int.tmod (wrap64 (a0)) 5))) t326 (wrap64 (t322 - 1))).bind fun t329 => (kingpinlaw08_LeagueEvenest.j0 k l2 (wrap64 (2 + (Int.tmod (wrap64 (a0)) 5))) t318 t322 t329))))) else (kingpinlaw08_LeagueEvenest.j0 k l2 (wrap64 (2 + (Int.tmod (wrap64 (a0)) 5))) t318 t322 true)) = some r := H
     have A14 := Aside0.mk A140
     clear A140
     by_cases c15 : t324 = true
     ·
      subst c15
      have H1 : ((league_ProveSchedule.f (wrap64 (2 + (Int.tmod (wrap64 (a0)) 5))) t318 (wrap64 (t322 - 1))).bind fun t325 => (if t325 = true then (kingpinlaw08_LeagueEvenest.j0 k l2 (wrap64 (2 + (Int.tmod (wrap64 (a0)) 5))) t318 t322 true) else ((kingpinlaw08_Schedule.f k l1).bind fun t326 => ((league_ProveSchedule.f (wrap64 (2 + (Int.tmod (wrap64 (a0)) 5))) t326 (wrap64 (t322 - 1))).bind fun t329 => (kingpinlaw08_LeagueEvenest.j0 k l2 (wrap64 (2 + (Int.tmod (wrap64 (a0)) 5))) t318 t322 t329))))) = some r := by rw [if_pos rfl] at H; exact H
      clear H
      have H := H1
      clear H1
      replace H := Option.bind_eq_some_iff.mp H
      obtain ⟨t325, A160, H⟩ := H
      replace H : (if t325 = true then (kingpinlaw08_LeagueEvenest.j0 k l2 (wrap64 (2 + (Int.tmod (wrap64 (a0)) 5))) t318 t322 true) else ((kingpinlaw08_Schedule.f k l1).bind fun t326 => ((league_ProveSchedule.f (wrap64 (2 + (Int.tmod (wrap64 (a0)) 5))) t326 (wrap64 (t322 - 1))).bind fun t329 => (kingpinlaw08_LeagueEvenest.j0 k l2 (wrap64 (2 + (Int.tmod (wrap64 (a0)) 5))) t318 t322 t329)))) = some r := H
      have A16 := Aside0.mk A160
      clear A160
      by_cases c17 : t325 = true
      ·
       subst c17
       have H1 : (kingpinlaw08_LeagueEvenest.j0 k l2 (wrap64 (2 + (Int.tmod (wrap64 (a0)) 5))) t318 t322 true) = some r := by rw [if_pos rfl] at H; exact H
       clear H
       have H := H1
       clear H1
       have H' := Aside0.mk H
       clear H
       go_wp2_with (first | (go_at_call 31; (with_reducible refine (league_ProveSchedule.calls (wrap64 (2 + (Int.tmod (wrap64 (a0)) 5))) _ _ t318 t322 true _ ?side1 ?side2 A14.out).mono ?_); (case side1 => repeat (first | exact (Kd.S_reads' HO321.out).2.2 | (with_reducible refine Kd.C_alloc ?_ _) | (with_reducible refine Kd.C_drewN ?_ _) | (with_reducible refine Kd.C_drew ?_))); (case side2 => exact (Kd.S_reads' HO321.out).2.1); rintro e w18 ⟨rfl, hb⟩; have n0_ := Aside0.mk (Kd.S_below (by (with_reducible repeat (first | apply Kd.S_alloc | apply Kd.S_drewN | apply Kd.S_drew)); exact HO321.out) hb); have n1_ := Aside0.mk (below_step (by repeat (first | (with_reducible first | exact HB.out | apply below_alloc | apply pw_below_drewN | apply below_drew1) | exact HB.out)) hb); clear HO321; clear HB; have HO321 := n0_; have HB := n1_; clear n0_ n1_; (try clear hb); (try clear hb2); (try clear hk); (try clear hi)) | (go_at_call 31; (with_reducible refine (league_ProveSchedule.calls (wrap64 (2 + (Int.tmod (wrap64 (a0)) 5))) _ _ t318 (wrap64 (t322 - 1)) true _ ?side1 ?side2 A16.out).mono ?_); (case side1 => repeat (first | exact (Kd.S_reads' HO321.out).2.2 | (with_reducible refine Kd.C_alloc ?_ _) | (with_reducible refine Kd.C_drewN ?_ _) | (with_reducible refine Kd.C_drew ?_))); (case side2 => exact (Kd.S_reads' HO321.out).2.1); rintro e w19 ⟨rfl, hb⟩; have n0_ := Aside0.mk (Kd.S_below (by (with_reducible repeat (first | apply Kd.S_alloc | apply Kd.S_drewN | apply Kd.S_drew)); exact HO321.out) hb); have n1_ := Aside0.mk (below_step (by repeat (first | (with_reducible first | exact HB.out | apply below_alloc | apply pw_below_drewN | apply below_drew1) | exact HB.out)) hb); clear HO321; clear HB; have HO321 := n0_; have HB := n1_; clear n0_ n1_; (try clear hb); (try clear hb2); (try clear hk); (try clear hi)))
       repeat (go_quiet (first | (go_at_call 31; (with_reducible refine (league_ProveSchedule.calls (wrap64 (2 + (Int.tmod (wrap64 (a0)) 5))) _ _ t318 t322 true _ ?side1 ?side2 A14.out).mono ?_); (case side1 => repeat (first | exact (Kd.S_reads' HO321.out).2.2 | (with_reducible refine Kd.C_alloc ?_ _) | (with_reducible refine Kd.C_drewN ?_ _) | (with_reducible refine Kd.C_drew ?_))); (case side2 => exact (Kd.S_reads' HO321.out).2.1); rintro e w18 ⟨rfl, hb⟩; have n0_ := Aside0.mk (Kd.S_below (by (with_reducible repeat (first | apply Kd.S_alloc | apply Kd.S_drewN | apply Kd.S_drew)); exact HO321.out) hb); have n1_ := Aside0.mk (below_step (by repeat (first | (with_reducible first | exact HB.out | apply below_alloc | apply pw_below_drewN | apply below_drew1) | exact HB.out)) hb); clear HO321; clear HB; have HO321 := n0_; have HB := n1_; clear n0_ n1_; (try clear hb); (try clear hb2); (try clear hk); (try clear hi)) | (go_at_call 31; (with_reducible refine (league_ProveSchedule.calls (wrap64 (2 + (Int.tmod (wrap64 (a0)) 5))) _ _ t318 (wrap64 (t322 - 1)) true _ ?side1 ?side2 A16.out).mono ?_); (case side1 => repeat (first | exact (Kd.S_reads' HO321.out).2.2 | (with_reducible refine Kd.C_alloc ?_ _) | (with_reducible refine Kd.C_drewN ?_ _) | (with_reducible refine Kd.C_drew ?_))); (case side2 => exact (Kd.S_reads' HO321.out).2.1); rintro e w19 ⟨rfl, hb⟩; have n0_ := Aside0.mk (Kd.S_below (by (with_reducible repeat (first | apply Kd.S_alloc | apply Kd.S_drewN | apply Kd.S_drew)); exact HO321.out) hb); have n1_ := Aside0.mk (below_step (by repeat (first | (with_reducible first | exact HB.out | apply below_alloc | apply pw_below_drewN | apply below_drew1) | exact HB.out)) hb); clear HO321; clear HB; have HO321 := n0_; have HB := n1_; clear n0_ n1_; (try clear hb); (try clear hb2); (try clear hk); (try clear hi))); try go_wp2_with (first | (go_at_call 31; (with_reducible refine (league_ProveSchedule.calls (wrap64 (2 + (Int.tmod (wrap64 (a0)) 5))) _ _ t318 t322 true _ ?side1 ?side2 A14.out).mono ?_); (case side1 => repeat (first | exact (Kd.S_reads' HO321.out).2.2 | (with_reducible refine Kd.C_alloc ?_ _) | (with_reducible refine Kd.C_drewN ?_ _) | (with_reducible refine Kd.C_drew ?_))); (case side2 => exact (Kd.S_reads' HO321.out).2.1); rintro e w18 ⟨rfl, hb⟩; have n0_ := Aside0.mk (Kd.S_below (by (with_reducible repeat (first | apply Kd.S_alloc | apply Kd.S_drewN | apply Kd.S_drew)); exact HO321.out) hb); have n1_ := Aside0.mk (below_step (by repeat (first | (with_reducible first | exact HB.out | apply below_alloc | apply pw_below_drewN | apply below_drew1) | exact HB.out)) hb); clear HO321; clear HB; have HO321 := n0_; have HB := n1_; clear n0_ n1_; (try clear hb); (try clear hb2); (try clear hk); (try clear hi)) | (go_at_call 31; (with_reducible refine (league_ProveSchedule.calls (wrap64 (2 + (Int.tmod (wrap64 (a0)) 5))) _ _ t318 (wrap64 (t322 - 1)) true _ ?side1 ?side2 A16.out).mono ?_); (case side1 => repeat (first | exact (Kd.S_reads' HO321.out).2.2 | (with_reducible refine Kd.C_alloc ?_ _) | (with_reducible refine Kd.C_drewN ?_ _) | (with_reducible refine Kd.C_drew ?_))); (case side2 => exact (Kd.S_reads' HO321.out).2.1); rintro e w19 ⟨rfl, hb⟩; have n0_ := Aside0.mk (Kd.S_below (by (with_reducible repeat (first | apply Kd.S_alloc | apply Kd.S_drewN | apply Kd.S_drew)); exact HO321.out) hb); have n1_ := Aside0.mk (below_step (by repeat (first | (with_reducible first | exact HB.out | apply below_alloc | apply pw_below_drewN | apply below_drew1) | exact HB.out)) hb); clear HO321; clear HB; have HO321 := n0_; have HB := n1_; clear n0_ n1_; (try clear hb); (try clear hb2); (try clear hk); (try clear hi))))
       go_meet
       case rel => exact ⟨_, (true), (by first | rfl | (simp; done) | (simp [*]; done)), H', ⟨by first | omega | exact Nat.le_refl _⟩, ⟨by (with_reducible repeat (first | apply Kd.S_alloc | apply Kd.S_drewN | apply Kd.S_drew)); exact HO321.out⟩, ⟨by repeat (first | (with_reducible first | exact HB.out | apply below_alloc | apply pw_below_drewN | apply below_drew1) | exact HB.out)⟩⟩
      ·
       replace c17 := Bool.eq_false_iff.mpr c17
       subst c17
       have H1 : ((kingpinlaw08_Schedule.f k l1).bind fun t326 => ((league_ProveSchedule.f (wrap64 (2 + (Int.tmod (wrap64 (a0)) 5))) t326 (wrap64 (t322 - 1))).bind fun t329 => (kingpinlaw08_LeagueEvenest.j0 k l2 (wrap64 (2 + (Int.tmod (wrap64 (a0)) 5))) t318 t322 t329))) = some r := by rw [if_neg (show ¬ (false = true) by decide)] at H; exact H
       clear H
       have H := H1
       clear H1
       replace H := Option.bind_eq_some_iff.mp H
       obtain ⟨t326, A200, H⟩ := H
       replace H : ((league_ProveSchedule.f (wrap64 (2 + (Int.tmod (wrap64 (a0)) 5))) t326 (wrap64 (t322 - 1))).bind fun t329 => (kingpinlaw08_LeagueEvenest.j0 k l2 (wrap64 (2 + (Int.tmod (wrap64 (a0)) 5))) t318 t322 t329)) = some r := H
       have A20 := Aside0.mk A200
       clear A200
       replace H := Option.bind_eq_some_iff.mp H
       obtain ⟨t329, A210, H⟩ := H
       replace H : (kingpinlaw08_LeagueEvenest.j0 k l2 (wrap64 (2 + (Int.tmod (wrap64 (a0)) 5))) t318 t322 t329) = some r := H
       have A21 := Aside0.mk A210
       clear A210
       have H' := Aside0.mk H
       clear H
       go_wp2_with (first | (go_at_call 31; (with_reducible refine (league_ProveSchedule.calls (wrap64 (2 + (Int.tmod (wrap64 (a0)) 5))) _ _ t318 t322 true _ ?side1 ?side2 A14.out).mono ?_); (case side1 => repeat (first | exact (Kd.S_reads' HO321.out).2.2 | (with_reducible refine Kd.C_alloc ?_ _) | (with_reducible refine Kd.C_drewN ?_ _) | (with_reducible refine Kd.C_drew ?_))); (case side2 => exact (Kd.S_reads' HO321.out).2.1); rintro e w22 ⟨rfl, hb⟩; have n0_ := Aside0.mk (Kd.S_below (by (with_reducible repeat (first | apply Kd.S_alloc | apply Kd.S_drewN | apply Kd.S_drew)); exact HO321.out) hb); have n1_ := Aside0.mk (below_step (by repeat (first | (with_reducible first | exact HB.out | apply below_alloc | apply pw_below_drewN | apply below_drew1) | exact HB.out)) hb); clear HO321; clear HB; have HO321 := n0_; have HB := n1_; clear n0_ n1_; (try clear hb); (try clear hb2); (try clear hk); (try clear hi)) | (go_at_call 31; (with_reducible refine (league_ProveSchedule.calls (wrap64 (2 + (Int.tmod (wrap64 (a0)) 5))) _ _ t318 (wrap64 (t322 - 1)) false _ ?side1 ?side2 A16.out).mono ?_); (case side1 => repeat (first | exact (Kd.S_reads' HO321.out).2.2 | (with_reducible refine Kd.C_alloc ?_ _) | (with_reducible refine Kd.C_drewN ?_ _) | (with_reducible refine Kd.C_drew ?_))); (case side2 => exact (Kd.S_reads' HO321.out).2.1); rintro e w23 ⟨rfl, hb⟩; have n0_ := Aside0.mk (Kd.S_below (by (with_reducible repeat (first | apply Kd.S_alloc | apply Kd.S_drewN | apply Kd.S_drew)); exact HO321.out) hb); have n1_ := Aside0.mk (below_step (by repeat (first | (with_reducible first | exact HB.out | apply below_alloc | apply pw_below_drewN | apply below_drew1) | exact HB.out)) hb); clear HO321; clear HB; have HO321 := n0_; have HB := n1_; clear n0_ n1_; (try clear hb); (try clear hb2); (try clear hk); (try clear hi)) | (go_at_call 32; (with_reducible refine (kingpinlaw08_Schedule.calls k _ _ l1 t326 _ ?side1 ?side2 A20.out).mono ?_); (case side1 => repeat (first | exact (Kd.C_below HR1.out HB.out) | (with_reducible refine Kd.C_alloc ?_ _) | (with_reducible refine Kd.C_drewN ?_ _) | (with_reducible refine Kd.C_drew ?_))); (case side2 => exact HC1.out); rintro e w24 ⟨v327, rfl, ho0, hb⟩; have n0_ := Aside0.mk (Kd.S_elder' (by (with_reducible repeat (first | apply Kd.S_alloc | apply Kd.S_drewN | apply Kd.S_drew)); exact HO321.out) (Kd.S_base ho0) hb); have n1_ := Aside0.mk (Kd.S_lower (Kd.S_new' ho0 (Kd.S_lt (by (with_reducible repeat (first | apply Kd.S_alloc | apply Kd.S_drewN | apply Kd.S_drew)); exact HO321.out))) (below_size (by repeat (first | (with_reducible first | exact HB.out | apply below_alloc | apply pw_below_drewN | apply below_drew1) | exact HB.out)))); have n2_ := Aside0.mk (below_step (by repeat (first | (with_reducible first | exact HB.out | apply below_alloc | apply pw_below_drewN | apply below_drew1) | exact HB.out)) hb); clear HO321; clear HB; have HO321 := n0_; have HO328 := n1_; have HB := n2_; clear n0_ n1_ n2_; (try clear hb); (try clear hb2); (try clear hk); (try clear hi); (try clear ho0); obtain ⟨Ao25, co25, eo25⟩ := Kd.S_slice HO328.out; subst eo25) | (go_at_call 31; (with_reducible refine (league_ProveSchedule.calls (wrap64 (2 + (Int.tmod (wrap64 (a0)) 5))) _ _ t326 (wrap64 (t322 - 1)) t329 _ ?side1 ?side2 A21.out).mono ?_); (case side1 => repeat (first | exact (Kd.S_reads' HO328.out).2.2 | (with_reducible refine Kd.C_alloc ?_ _) | (with_reducible refine Kd.C_drewN ?_ _) | (with_reducible refine Kd.C_drew ?_))); (case side2 => exact (Kd.S_reads' HO328.out).2.1); rintro e w26 ⟨rfl, hb⟩; have n0_ := Aside0.mk (Kd.S_below (by (with_reducible repeat (first | apply Kd.S_alloc | apply Kd.S_drewN | apply Kd.S_drew)); exact HO321.out) hb); have n1_ := Aside0.mk (Kd.S_below (by (with_reducible repeat (first | apply Kd.S_alloc | apply Kd.S_drewN | apply Kd.S_drew)); exact HO328.out) hb); have n2_ := Aside0.mk (below_step (by repeat (first | (with_reducible first | exact HB.out | apply below_alloc | apply pw_below_drewN | apply below_drew1) | exact HB.out)) hb); clear HO321; clear HO328; clear HB; have HO321 := n0_; have HO328 := n1_; have HB := n2_; clear n0_ n1_ n2_; (try clear hb); (try clear hb2); (try clear hk); (try clear hi)))
       repeat (go_quiet (first | (go_at_call 31; (with_reducible refine (league_ProveSchedule.calls (wrap64 (2 + (Int.tmod (wrap64 (a0)) 5))) _ _ t318 t322 true _ ?side1 ?side2 A14.out).mono ?_); (case side1 => repeat (first | exact (Kd.S_reads' HO321.out).2.2 | (with_reducible refine Kd.C_alloc ?_ _) | (with_reducible refine Kd.C_drewN ?_ _) | (with_reducible refine Kd.C_drew ?_))); (case side2 => exact (Kd.S_reads' HO321.out).2.1); rintro e w22 ⟨rfl, hb⟩; have n0_ := Aside0.mk (Kd.S_below (by (with_reducible repeat (first | apply Kd.S_alloc | apply Kd.S_drewN | apply Kd.S_drew)); exact HO321.out) hb); have n1_ := Aside0.mk (below_step (by repeat (first | (with_reducible first | exact HB.out | apply below_alloc | apply pw_below_drewN | apply below_drew1) | exact HB.out)) hb); clear HO321; clear HB; have HO321 := n0_; have HB := n1_; clear n0_ n1_; (try clear hb); (try clear hb2); (try clear hk); (try clear hi)) | (go_at_call 31; (with_reducible refine (league_ProveSchedule.calls (wrap64 (2 + (Int.tmod (wrap64 (a0)) 5))) _ _ t318 (wrap64 (t322 - 1)) false _ ?side1 ?side2 A16.out).mono ?_); (case side1 => repeat (first | exact (Kd.S_reads' HO321.out).2.2 | (with_reducible refine Kd.C_alloc ?_ _) | (with_reducible refine Kd.C_drewN ?_ _) | (with_reducible refine Kd.C_drew ?_))); (case side2 => exact (Kd.S_reads' HO321.out).2.1); rintro e w23 ⟨rfl, hb⟩; have n0_ := Aside0.mk (Kd.S_below (by (with_reducible repeat (first | apply Kd.S_alloc | apply Kd.S_drewN | apply Kd.S_drew)); exact HO321.out) hb); have n1_ := Aside0.mk (below_step (by repeat (first | (with_reducible first | exact HB.out | apply below_alloc | apply pw_below_drewN | apply below_drew1) | exact HB.out)) hb); clear HO321; clear HB; have HO321 := n0_; have HB := n1_; clear n0_ n1_; (try clear hb); (try clear hb2); (try clear hk); (try clear hi)) | (go_at_call 32; (with_reducible refine (kingpinlaw08_Schedule.calls k _ _ l1 t326 _ ?side1 ?side2 A20.out).mono ?_); (case side1 => repeat (first | exact (Kd.C_below HR1.out HB.out) | (with_reducible refine Kd.C_alloc ?_ _) | (with_reducible refine Kd.C_drewN ?_ _) | (with_reducible refine Kd.C_drew ?_))); (case side2 => exact HC1.out); rintro e w24 ⟨v327, rfl, ho0, hb⟩; have n0_ := Aside0.mk (Kd.S_elder' (by (with_reducible repeat (first | apply Kd.S_alloc | apply Kd.S_drewN | apply Kd.S_drew)); exact HO321.out) (Kd.S_base ho0) hb); have n1_ := Aside0.mk (Kd.S_lower (Kd.S_new' ho0 (Kd.S_lt (by (with_reducible repeat (first | apply Kd.S_alloc | apply Kd.S_drewN | apply Kd.S_drew)); exact HO321.out))) (below_size (by repeat (first | (with_reducible first | exact HB.out | apply below_alloc | apply pw_below_drewN | apply below_drew1) | exact HB.out)))); have n2_ := Aside0.mk (below_step (by repeat (first | (with_reducible first | exact HB.out | apply below_alloc | apply pw_below_drewN | apply below_drew1) | exact HB.out)) hb); clear HO321; clear HB; have HO321 := n0_; have HO328 := n1_; have HB := n2_; clear n0_ n1_ n2_; (try clear hb); (try clear hb2); (try clear hk); (try clear hi); (try clear ho0); obtain ⟨Ao25, co25, eo25⟩ := Kd.S_slice HO328.out; subst eo25) | (go_at_call 31; (with_reducible refine (league_ProveSchedule.calls (wrap64 (2 + (Int.tmod (wrap64 (a0)) 5))) _ _ t326 (wrap64 (t322 - 1)) t329 _ ?side1 ?side2 A21.out).mono ?_); (case side1 => repeat (first | exact (Kd.S_reads' HO328.out).2.2 | (with_reducible refine Kd.C_alloc ?_ _) | (with_reducible refine Kd.C_drewN ?_ _) | (with_reducible refine Kd.C_drew ?_))); (case side2 => exact (Kd.S_reads' HO328.out).2.1); rintro e w26 ⟨rfl, hb⟩; have n0_ := Aside0.mk (Kd.S_below (by (with_reducible repeat (first | apply Kd.S_alloc | apply Kd.S_drewN | apply Kd.S_drew)); exact HO321.out) hb); have n1_ := Aside0.mk (Kd.S_below (by (with_reducible repeat (first | apply Kd.S_alloc | apply Kd.S_drewN | apply Kd.S_drew)); exact HO328.out) hb); have n2_ := Aside0.mk (below_step (by repeat (first | (with_reducible first | exact HB.out | apply below_alloc | apply pw_below_drewN | apply below_drew1) | exact HB.out)) hb); clear HO321; clear HO328; clear HB; have HO321 := n0_; have HO328 := n1_; have HB := n2_; clear n0_ n1_ n2_; (try clear hb); (try clear hb2); (try clear hk); (try clear hi))); try go_wp2_with (first | (go_at_call 31; (with_reducible refine (league_ProveSchedule.calls (wrap64 (2 + (Int.tmod (wrap64 (a0)) 5))) _ _ t318 t322 true _ ?side1 ?side2 A14.out).mono ?_); (case side1 => repeat (first | exact (Kd.S_reads' HO321.out).2.2 | (with_reducible refine Kd.C_alloc ?_ _) | (with_reducible refine Kd.C_drewN ?_ _) | (with_reducible refine Kd.C_drew ?_))); (case side2 => exact (Kd.S_reads' HO321.out).2.1); rintro e w22 ⟨rfl, hb⟩; have n0_ := Aside0.mk (Kd.S_below (by (with_reducible repeat (first | apply Kd.S_alloc | apply Kd.S_drewN | apply Kd.S_drew)); exact HO321.out) hb); have n1_ := Aside0.mk (below_step (by repeat (first | (with_reducible first | exact HB.out | apply below_alloc | apply pw_below_drewN | apply below_drew1) | exact HB.out)) hb); clear HO321; clear HB; have HO321 := n0_; have HB := n1_; clear n0_ n1_; (try clear hb); (try clear hb2); (try clear hk); (try clear hi)) | (go_at_call 31; (with_reducible refine (league_ProveSchedule.calls (wrap64 (2 + (Int.tmod (wrap64 (a0)) 5))) _ _ t318 (wrap64 (t322 - 1)) false _ ?side1 ?side2 A16.out).mono ?_); (case side1 => repeat (first | exact (Kd.S_reads' HO321.out).2.2 | (with_reducible refine Kd.C_alloc ?_ _) | (with_reducible refine Kd.C_drewN ?_ _) | (with_reducible refine Kd.C_drew ?_))); (case side2 => exact (Kd.S_reads' HO321.out).2.1); rintro e w23 ⟨rfl, hb⟩; have n0_ := Aside0.mk (Kd.S_below (by (with_reducible repeat (first | apply Kd.S_alloc | apply Kd.S_drewN | apply Kd.S_drew)); exact HO321.out) hb); have n1_ := Aside0.mk (below_step (by repeat (first | (with_reducible first | exact HB.out | apply below_alloc | apply pw_below_drewN | apply below_drew1) | exact HB.out)) hb); clear HO321; clear HB; have HO321 := n0_; have HB := n1_; clear n0_ n1_; (try clear hb); (try clear hb2); (try clear hk); (try clear hi)) | (go_at_call 32; (with_reducible refine (kingpinlaw08_Schedule.calls k _ _ l1 t326 _ ?side1 ?side2 A20.out).mono ?_); (case side1 => repeat (first | exact (Kd.C_below HR1.out HB.out) | (with_reducible refine Kd.C_alloc ?_ _) | (with_reducible refine Kd.C_drewN ?_ _) | (with_reducible refine Kd.C_drew ?_))); (case side2 => exact HC1.out); rintro e w24 ⟨v327, rfl, ho0, hb⟩; have n0_ := Aside0.mk (Kd.S_elder' (by (with_reducible repeat (first | apply Kd.S_alloc | apply Kd.S_drewN | apply Kd.S_drew)); exact HO321.out) (Kd.S_base ho0) hb); have n1_ := Aside0.mk (Kd.S_lower (Kd.S_new' ho0 (Kd.S_lt (by (with_reducible repeat (first | apply Kd.S_alloc | apply Kd.S_drewN | apply Kd.S_drew)); exact HO321.out))) (below_size (by repeat (first | (with_reducible first | exact HB.out | apply below_alloc | apply pw_below_drewN | apply below_drew1) | exact HB.out)))); have n2_ := Aside0.mk (below_step (by repeat (first | (with_reducible first | exact HB.out | apply below_alloc | apply pw_below_drewN | apply below_drew1) | exact HB.out)) hb); clear HO321; clear HB; have HO321 := n0_; have HO328 := n1_; have HB := n2_; clear n0_ n1_ n2_; (try clear hb); (try clear hb2); (try clear hk); (try clear hi); (try clear ho0); obtain ⟨Ao25, co25, eo25⟩ := Kd.S_slice HO328.out; subst eo25) | (go_at_call 31; (with_reducible refine (league_ProveSchedule.calls (wrap64 (2 + (Int.tmod (wrap64 (a0)) 5))) _ _ t326 (wrap64 (t322 - 1)) t329 _ ?side1 ?side2 A21.out).mono ?_); (case side1 => repeat (first | exact (Kd.S_reads' HO328.out).2.2 | (with_reducible refine Kd.C_alloc ?_ _) | (with_reducible refine Kd.C_drewN ?_ _) | (with_reducible refine Kd.C_drew ?_))); (case side2 => exact (Kd.S_reads' HO328.out).2.1); rintro e w26 ⟨rfl, hb⟩; have n0_ := Aside0.mk (Kd.S_below (by (with_reducible repeat (first | apply Kd.S_alloc | apply Kd.S_drewN | apply Kd.S_drew)); exact HO321.out) hb); have n1_ := Aside0.mk (Kd.S_below (by (with_reducible repeat (first | apply Kd.S_alloc | apply Kd.S_drewN | apply Kd.S_drew)); exact HO328.out) hb); have n2_ := Aside0.mk (below_step (by repeat (first | (with_reducible first | exact HB.out | apply below_alloc | apply pw_below_drewN | apply below_drew1) | exact HB.out)) hb); clear HO321; clear HO328; clear HB; have HO321 := n0_; have HO328 := n1_; have HB := n2_; clear n0_ n1_ n2_; (try clear hb); (try clear hb2); (try clear hk); (try clear hi))))
       go_meet
       case rel => exact ⟨_, (t329), (by first | rfl | (simp; done) | (simp [*]; done)), H', ⟨by first | omega | exact Nat.le_refl _⟩, ⟨by (with_reducible repeat (first | apply Kd.S_alloc | apply Kd.S_drewN | apply Kd.S_drew)); exact Kd.S_mono HO321.out (fun _ hk => trivial)⟩, ⟨by repeat (first | (with_reducible first | exact HB.out | apply below_alloc | apply pw_below_drewN | apply below_drew1) | exact HB.out)⟩⟩
     ·
      replace c15 := Bool.eq_false_iff.mpr c15
      subst c15
      have H1 : (kingpinlaw08_LeagueEvenest.j0 k l2 (wrap64 (2 + (Int.tmod (wrap64 (a0)) 5))) t318 t322 true) = some r := by rw [if_neg (show ¬ (false = true) by decide)] at H; exact H
      clear H
      have H := H1
      clear H1
      have H' := Aside0.mk H
      clear H
      go_wp2_with (first | (go_at_call 31; (with_reducible refine (league_ProveSchedule.calls (wrap64 (2 + (Int.tmod (wrap64 (a0)) 5))) _ _ t318 t322 false _ ?side1 ?side2 A14.out).mono ?_); (case side1 => repeat (first | exact (Kd.S_reads' HO321.out).2.2 | (with_reducible refine Kd.C_alloc ?_ _) | (with_reducible refine Kd.C_drewN ?_ _) | (with_reducible refine Kd.C_drew ?_))); (case side2 => exact (Kd.S_reads' HO321.out).2.1); rintro e w27 ⟨rfl, hb⟩; have n0_ := Aside0.mk (Kd.S_below (by (with_reducible repeat (first | apply Kd.S_alloc | apply Kd.S_drewN | apply Kd.S_drew)); exact HO321.out) hb); have n1_ := Aside0.mk (below_step (by repeat (first | (with_reducible first | exact HB.out | apply below_alloc | apply pw_below_drewN | apply below_drew1) | exact HB.out)) hb); clear HO321; clear HB; have HO321 := n0_; have HB := n1_; clear n0_ n1_; (try clear hb); (try clear hb2); (try clear hk); (try clear hi)))
      repeat (go_quiet (first | (go_at_call 31; (with_reducible refine (league_ProveSchedule.calls (wrap64 (2 + (Int.tmod (wrap64 (a0)) 5))) _ _ t318 t322 false _ ?side1 ?side2 A14.out).mono ?_); (case side1 => repeat (first | exact (Kd.S_reads' HO321.out).2.2 | (with_reducible refine Kd.C_alloc ?_ _) | (with_reducible refine Kd.C_drewN ?_ _) | (with_reducible refine Kd.C_drew ?_))); (case side2 => exact (Kd.S_reads' HO321.out).2.1); rintro e w27 ⟨rfl, hb⟩; have n0_ := Aside0.mk (Kd.S_below (by (with_reducible repeat (first | apply Kd.S_alloc | apply Kd.S_drewN | apply Kd.S_drew)); exact HO321.out) hb); have n1_ := Aside0.mk (below_step (by repeat (first | (with_reducible first | exact HB.out | apply below_alloc | apply pw_below_drewN | apply below_drew1) | exact HB.out)) hb); clear HO321; clear HB; have HO321 := n0_; have HB := n1_; clear n0_ n1_; (try clear hb); (try clear hb2); (try clear hk); (try clear hi))); try go_wp2_with (first | (go_at_call 31; (with_reducible refine (league_ProveSchedule.calls (wrap64 (2 + (Int.tmod (wrap64 (a0)) 5))) _ _ t318 t322 false _ ?side1 ?side2 A14.out).mono ?_); (case side1 => repeat (first | exact (Kd.S_reads' HO321.out).2.2 | (with_reducible refine Kd.C_alloc ?_ _) | (with_reducible refine Kd.C_drewN ?_ _) | (with_reducible refine Kd.C_drew ?_))); (case side2 => exact (Kd.S_reads' HO321.out).2.1); rintro e w27 ⟨rfl, hb⟩; have n0_ := Aside0.mk (Kd.S_below (by (with_reducible repeat (first | apply Kd.S_alloc | apply Kd.S_drewN | apply Kd.S_drew)); exact HO321.out) hb); have n1_ := Aside0.mk (below_step (by repeat (first | (with_reducible first | exact HB.out | apply below_alloc | apply pw_below_drewN | apply below_drew1) | exact HB.out)) hb); clear HO321; clear HB; have HO321 := n0_; have HB := n1_; clear n0_ n1_; (try clear hb); (try clear hb2); (try clear hk); (try clear hi))))
      go_meet
      case rel => exact ⟨_, (true), (by first | rfl | (simp; done) | (simp [*]; done)), H', ⟨by first | omega | exact Nat.le_refl _⟩, ⟨by (with_reducible repeat (first | apply Kd.S_alloc | apply Kd.S_drewN | apply Kd.S_drew)); exact HO321.out⟩, ⟨by repeat (first | (with_reducible first | exact HB.out | apply below_alloc | apply pw_below_drewN | apply below_drew1) | exact HB.out)⟩⟩
    ·
     rw [if_neg c13] at H
     have c13b0 : (t323 == 0) = false := beq_eq_false_iff_ne.mpr c13
     have c13b1 : (t323 != 0) = true := bne_iff_ne.mpr c13
     have H' := Aside0.mk H
     clear H
     go_wp2
     repeat (go_quiet (fail); try go_wp2)
     go_meet
     case rel => exact ⟨_, (true), (by first | rfl | (simp; done) | (simp [*]; done)), H', ⟨by first | omega | exact Nat.le_refl _⟩, ⟨by (with_reducible repeat (first | apply Kd.S_alloc | apply Kd.S_drewN | apply Kd.S_drew)); exact HO321.out⟩, ⟨by repeat (first | (with_reducible first | exact HB.out | apply below_alloc | apply pw_below_drewN | apply below_drew1) | exact HB.out)⟩⟩
   ·
    rw [if_neg c12] at H
    have c12b0 : (t319 == 0) = false := beq_eq_false_iff_ne.mpr c12
    have c12b1 : (t319 != 0) = true := bne_iff_ne.mpr c12
    (first | rw [c12b0] | (simp only [i64_w, i32_w]; rw [c12b0]) | skip)
    have H' := Aside0.mk H
    clear H
    go_wp2
    repeat (go_quiet (fail); try go_wp2)
    go_meet
    case rel => exact ⟨_, (true), (by first | rfl | (simp; done) | (simp [*]; done)), H', ⟨by first | omega | exact Nat.le_refl _⟩, ⟨by (with_reducible repeat (first | apply Kd.S_alloc | apply Kd.S_drewN | apply Kd.S_drew)); exact HO321.out⟩, ⟨by repeat (first | (with_reducible first | exact HB.out | apply below_alloc | apply pw_below_drewN | apply below_drew1) | exact HB.out)⟩⟩
  case rest =>
   clear HC8
   try clear c1
   try clear c2
   try clear p2
   try clear c5
   try clear p6
   try clear c12
   try clear c12b0
   try clear c12b1
   try clear c13
   try clear c13b0
   try clear c13b1
   try clear c15
   try clear c17
   obtain ⟨kq, x68_7, rfl, HA, HJ7, HO_8, HB⟩ := hcut
   cases kq with
   | zero => exact absurd HA.out (by simp [kingpinlaw08_LeagueEvenest.j0])
   | succ kj7 =>
    have H := HA.out
    clear HA
    simp only [kingpinlaw08_LeagueEvenest.j0] at H
    by_cases c28 : x68_7 = true
    ·
     subst c28
     have H1 : (some false) = some r := by rw [if_pos rfl] at H; exact H
     clear H
     have H := H1
     clear H1
     obtain rfl := Option.some.inj H
     go_wp2
     repeat (go_quiet (fail); try go_wp2)
     go_ret
     exact ⟨by first | rfl | (simp [errW_none, errW_some] <;> rfl) | (simp [*, errW_none, errW_some] <;> rfl), by repeat (first | (with_reducible first | exact HB.out | apply below_alloc | apply pw_below_drewN | apply below_drew1) | exact HB.out)⟩
    ·
     replace c28 := Bool.eq_false_iff.mpr c28
     subst c28
     have H1 : ((kingpinlaw08_word.f l2 0).bind fun t330 => (if (wrap64 (2 + (Int.tmod (wrap64 (a0)) 5))) = 0 then (none) else (kingpinlaw08_LeagueEvenest.l0 kj7 l2 (wrap64 (2 + (Int.tmod (wrap64 (a0)) 5))) t318 t322 ([] : List (List (S57))) (Int.tmod t330 (wrap64 (2 + (Int.tmod (wrap64 (a0)) 5)))) 0))) = some r := by rw [if_neg (show ¬ (false = true) by decide)] at H; exact H
     clear H
     have H := H1
     clear H1
     replace H := Option.bind_eq_some_iff.mp H
     obtain ⟨t330, A290, H⟩ := H
     replace H : (if (wrap64 (2 + (Int.tmod (wrap64 (a0)) 5))) = 0 then (none) else (kingpinlaw08_LeagueEvenest.l0 kj7 l2 (wrap64 (2 + (Int.tmod (wrap64 (a0)) 5))) t318 t322 ([] : List (List (S57))) (Int.tmod t330 (wrap64 (2 + (Int.tmod (wrap64 (a0)) 5)))) 0)) = some r := H
     have A29 := Aside0.mk A290
     clear A290
     by_cases c30 : (wrap64 (2 + (Int.tmod (wrap64 (a0)) 5))) = 0
     ·
      rw [if_pos c30] at H
      exact absurd H (by simp)
     ·
      rw [if_neg c30] at H
      have c30b0 : ((wrap64 (2 + (Int.tmod (wrap64 (a0)) 5))) == 0) = false := beq_eq_false_iff_ne.mpr c30
      have c30b1 : ((wrap64 (2 + (Int.tmod (wrap64 (a0)) 5))) != 0) = true := bne_iff_ne.mpr c30
      have H' := Aside0.mk H
      clear H
      go_wp2_with (first | (go_at_call 33; (with_reducible refine (kingpinlaw08_word.calls _ _ l2 0 t330 _ ?side1 ?side2 A29.out).mono ?_); (case side1 => repeat (first | exact (Kd.C_below HR2.out HB.out) | (with_reducible refine Kd.C_alloc ?_ _) | (with_reducible refine Kd.C_drewN ?_ _) | (with_reducible refine Kd.C_drew ?_))); (case side2 => exact HC2.out); rintro e w' ⟨rfl, ⟨nd, rfl⟩⟩; (try first | exact ⟨rfl, _, World.drewN_drewN _ _ _⟩ | exact ⟨rfl, _, Eq.trans (World.drewN_drewN _ _ _) (congrArg (World.drewN _) (Nat.add_assoc _ _ _))⟩)))
      repeat (go_quiet (first | (go_at_call 33; (with_reducible refine (kingpinlaw08_word.calls _ _ l2 0 t330 _ ?side1 ?side2 A29.out).mono ?_); (case side1 => repeat (first | exact (Kd.C_below HR2.out HB.out) | (with_reducible refine Kd.C_alloc ?_ _) | (with_reducible refine Kd.C_drewN ?_ _) | (with_reducible refine Kd.C_drew ?_))); (case side2 => exact HC2.out); rintro e w' ⟨rfl, ⟨nd, rfl⟩⟩; (try first | exact ⟨rfl, _, World.drewN_drewN _ _ _⟩ | exact ⟨rfl, _, Eq.trans (World.drewN_drewN _ _ _) (congrArg (World.drewN _) (Nat.add_assoc _ _ _))⟩))); try go_wp2_with (first | (go_at_call 33; (with_reducible refine (kingpinlaw08_word.calls _ _ l2 0 t330 _ ?side1 ?side2 A29.out).mono ?_); (case side1 => repeat (first | exact (Kd.C_below HR2.out HB.out) | (with_reducible refine Kd.C_alloc ?_ _) | (with_reducible refine Kd.C_drewN ?_ _) | (with_reducible refine Kd.C_drew ?_))); (case side2 => exact HC2.out); rintro e w' ⟨rfl, ⟨nd, rfl⟩⟩; (try first | exact ⟨rfl, _, World.drewN_drewN _ _ _⟩ | exact ⟨rfl, _, Eq.trans (World.drewN_drewN _ _ _) (congrArg (World.drewN _) (Nat.add_assoc _ _ _))⟩))))
      go_loopg [12, 14] kj7 (fun kq v12 v14 w' => ∃ (x12_2 : List (List (S57))) (x14_2 : Int), v14 = .int .i64 x14_2 ∧ Aside0 (kingpinlaw08_LeagueEvenest.l0 kq l2 (wrap64 (2 + (Int.tmod (wrap64 (a0)) 5))) t318 t322 x12_2 (Int.tmod t330 (wrap64 (2 + (Int.tmod (wrap64 (a0)) 5)))) x14_2 = some r) ∧ Aside0 (kq ≤ kj7) ∧ Aside0 (Kd.S (Kd.slice 57 k57) 55 w' w.heap.size (fun k_ => some k_ ≠ (v12 : Value).ownBlock) (.slice Ao10 t318.length co10) t318) ∧ Aside0 (Kd.S (Kd.slice 57 k57) 55 w' w.heap.size (fun k_ => some k_ ≠ ((.slice Ao10 t318.length co10) : Value).ownBlock) v12 x12_2) ∧ Aside0 (Below w.heap.size w w'))
      case atStart => exact ⟨(([] : List (List (S57)))), (0), (by first | rfl | (simp; done) | (simp [*]; done)), H', ⟨Nat.le_refl _⟩, ⟨by (with_reducible repeat (first | apply Kd.S_alloc | apply Kd.S_drewN | apply Kd.S_drew)); exact Kd.S_mono HO_8.out (fun _ hk => (by simp [Value.ownBlock]))⟩, ⟨by first | exact Kd.S_nil _ _ _ _ _ | exact Kd.N_nil _ _ _ _ _ | exact Kd.V_nil _ _ _ _ _ | exact Kd.Q_nil _ _ _ _ _ | exact Kd.R_nil _ _ _ _ _⟩, ⟨by repeat (first | (with_reducible first | exact HB.out | apply below_alloc | apply pw_below_drewN | apply below_drew1) | exact HB.out)⟩⟩
      case round =>
       clear H'
       try clear c1
       try clear c2
       try clear p2
       try clear c3
       try clear c5
       try clear p6
       try clear c12
       try clear c12b0
       try clear c12b1
       try clear c13
       try clear c13b0
       try clear c13b1
       try clear c15
       try clear c17
       try clear c28
       try clear c30
       try clear c30b0
       try clear c30b1
       try clear p2
       try clear p6
       obtain ⟨x12_2, x14_2, rfl, HA, HK2, HO_8, HO_12, HB⟩ := hrel
       cases gk with
       | zero => exact absurd HA.out (by simp [kingpinlaw08_LeagueEvenest.l0])
       | succ k2 =>
        have H := HA.out
        clear HA
        simp only [kingpinlaw08_LeagueEvenest.l0] at H
        by_cases c31 : x14_2 < (t318.length : Int)
        ·
         rw [if_pos c31] at H
         have c31b0 : decide (x14_2 < (t318.length : Int)) = true := decide_eq_true c31
         clear c31
         replace H := Option.bind_eq_some_iff.mp H
         obtain ⟨t334, A320, H⟩ := H
         replace H : (if (wrap64 (Int.tdiv (wrap64 (2 + (Int.tmod (wrap64 (a0)) 5))) 2)) = 0 then (none) else (kingpinlaw08_LeagueEvenest.l1 k2 l2 (wrap64 (2 + (Int.tmod (wrap64 (a0)) 5))) t318 t322 x12_2 (Int.tmod t330 (wrap64 (2 + (Int.tmod (wrap64 (a0)) 5)))) x14_2 (Int.tmod t334 (wrap64 (Int.tdiv (wrap64 (2 + (Int.tmod (wrap64 (a0)) 5))) 2))) ([] : List (S57)) 0)) = some r := H
         have A32 := Aside0.mk A320
         clear A320
         by_cases c33 : (wrap64 (Int.tdiv (wrap64 (2 + (Int.tmod (wrap64 (a0)) 5))) 2)) = 0
         ·
          rw [if_pos c33] at H
          exact absurd H (by simp)
         ·
          rw [if_neg c33] at H
          have c33b0 : ((wrap64 (Int.tdiv (wrap64 (2 + (Int.tmod (wrap64 (a0)) 5))) 2)) == 0) = false := beq_eq_false_iff_ne.mpr c33
          have c33b1 : ((wrap64 (Int.tdiv (wrap64 (2 + (Int.tmod (wrap64 (a0)) 5))) 2)) != 0) = true := bne_iff_ne.mpr c33
          have H' := Aside0.mk H
          clear H
          go_wp2_with (first | (go_at_call 33; (with_reducible refine (kingpinlaw08_word.calls _ _ l2 (wrap64 (x14_2 + 1)) t334 _ ?side1 ?side2 A32.out).mono ?_); (case side1 => repeat (first | exact (Kd.C_below HR2.out HB.out) | (with_reducible refine Kd.C_alloc ?_ _) | (with_reducible refine Kd.C_drewN ?_ _) | (with_reducible refine Kd.C_drew ?_))); (case side2 => exact HC2.out); rintro e w' ⟨rfl, ⟨nd, rfl⟩⟩; (try first | exact ⟨rfl, _, World.drewN_drewN _ _ _⟩ | exact ⟨rfl, _, Eq.trans (World.drewN_drewN _ _ _) (congrArg (World.drewN _) (Nat.add_assoc _ _ _))⟩)))
          repeat (go_quiet (first | (go_at_call 33; (with_reducible refine (kingpinlaw08_word.calls _ _ l2 (wrap64 (x14_2 + 1)) t334 _ ?side1 ?side2 A32.out).mono ?_); (case side1 => repeat (first | exact (Kd.C_below HR2.out HB.out) | (with_reducible refine Kd.C_alloc ?_ _) | (with_reducible refine Kd.C_drewN ?_ _) | (with_reducible refine Kd.C_drew ?_))); (case side2 => exact HC2.out); rintro e w' ⟨rfl, ⟨nd, rfl⟩⟩; (try first | exact ⟨rfl, _, World.drewN_drewN _ _ _⟩ | exact ⟨rfl, _, Eq.trans (World.drewN_drewN _ _ _) (congrArg (World.drewN _) (Nat.add_assoc _ _ _))⟩))); try go_wp2_with (first | (go_at_call 33; (with_reducible refine (kingpinlaw08_word.calls _ _ l2 (wrap64 (x14_2 + 1)) t334 _ ?side1 ?side2 A32.out).mono ?_); (case side1 => repeat (first | exact (Kd.C_below HR2.out HB.out) | (with_reducible refine Kd.C_alloc ?_ _) | (with_reducible refine Kd.C_drewN ?_ _) | (with_reducible refine Kd.C_drew ?_))); (case side2 => exact HC2.out); rintro e w' ⟨rfl, ⟨nd, rfl⟩⟩; (try first | exact ⟨rfl, _, World.drewN_drewN _ _ _⟩ | exact ⟨rfl, _, Eq.trans (World.drewN_drewN _ _ _) (congrArg (World.drewN _) (Nat.add_assoc _ _ _))⟩))))
          go_loopg [16, 17] k2 (fun kq v16 v17 w' => ∃ (x16_3 : List (S57)) (x17_3 : Int), v17 = .int .i64 x17_3 ∧ Aside0 (kingpinlaw08_LeagueEvenest.l1 kq l2 (wrap64 (2 + (Int.tmod (wrap64 (a0)) 5))) t318 t322 x12_2 (Int.tmod t330 (wrap64 (2 + (Int.tmod (wrap64 (a0)) 5)))) x14_2 (Int.tmod t334 (wrap64 (Int.tdiv (wrap64 (2 + (Int.tmod (wrap64 (a0)) 5))) 2))) x16_3 x17_3 = some r) ∧ Aside0 (kq ≤ k2) ∧ Aside0 (Kd.S (Kd.slice 57 k57) 55 w' w.heap.size (fun k_ => some k_ ≠ (u12 : Value).ownBlock ∧ some k_ ≠ (v16 : Value).ownBlock) (.slice Ao10 t318.length co10) t318) ∧ Aside0 (Kd.S (Kd.slice 57 k57) 55 w' w.heap.size (fun k_ => some k_ ≠ ((.slice Ao10 t318.length co10) : Value).ownBlock ∧ some k_ ≠ (v16 : Value).ownBlock) u12 x12_2) ∧ Aside0 (Kd.R k57 57 w' w.heap.size (fun _ => True) v16 x16_3) ∧ Aside0 (Below w.heap.size w w'))
          case atStart => exact ⟨(([] : List (S57))), (0), (by first | rfl | (simp; done) | (simp [*]; done)), H', ⟨Nat.le_refl _⟩, ⟨by (with_reducible repeat (first | apply Kd.S_alloc | apply Kd.S_drewN | apply Kd.S_drew)); exact Kd.S_mono HO_8.out (fun _ hk => ⟨hk, (by simp [Value.ownBlock])⟩)⟩, ⟨by (with_reducible repeat (first | apply Kd.S_alloc | apply Kd.S_drewN | apply Kd.S_drew)); exact Kd.S_mono HO_12.out (fun _ hk => ⟨hk, (by simp [Value.ownBlock])⟩)⟩, ⟨by first | exact Kd.R_nil _ _ _ _ _ | exact Kd.N_nil _ _ _ _ _ | exact Kd.V_nil _ _ _ _ _ | exact Kd.Q_nil _ _ _ _ _ | exact Kd.S_nil _ _ _ _ _⟩, ⟨by repeat (first | (with_reducible first | exact HB.out | apply below_alloc | apply pw_below_drewN | apply below_drew1) | exact HB.out)⟩⟩
          case round =>
           clear H'
           try clear c1
           try clear c2
           try clear p2
           try clear c3
           try clear c5
           try clear p6
           try clear c12
           try clear c12b0
           try clear c12b1
           try clear c13
           try clear c13b0
           try clear c13b1
           try clear c15
           try clear c17
           try clear c28
           try clear c30
           try clear c30b0
           try clear c30b1
           try clear c31
           try clear c31b0
           try clear c33
           try clear c33b0
           try clear c33b1
           try clear p2
           try clear p6
           obtain ⟨x16_3, x17_3, rfl, HA, HK3, HO_8, HO_12, HO_16, HB⟩ := hrel
           cases gk with
           | zero => exact absurd HA.out (by simp [kingpinlaw08_LeagueEvenest.l1])
           | succ k3 =>
            have H := HA.out
            clear HA
            simp only [kingpinlaw08_LeagueEvenest.l1] at H
            by_cases c34 : 0 ≤ x14_2
            ·
             rw [if_pos c34] at H
             have c34b0 : decide (0 ≤ x14_2) = true := decide_eq_true c34
             clear c34
             by_cases c35 : x14_2 < (t318.length : Int)
             ·
              rw [if_pos c35] at H
              have c35b0 : decide (x14_2 < (t318.length : Int)) = true := decide_eq_true c35
              clear c35
              by_cases c36 : x17_3 < ((rd_L7 t318 x14_2).length : Int)
              ·
               rw [if_pos c36] at H
               have c36b0 : decide (x17_3 < ((rd_L7 t318 x14_2).length : Int)) = true := decide_eq_true c36
               clear c36
               by_cases c37 : 0 ≤ x17_3
               ·
                rw [if_pos c37] at H
                have c37b0 : decide (0 ≤ x17_3) = true := decide_eq_true c37
                clear c37
                by_cases c38 : (wrap64 (2 + (Int.tmod (wrap64 (a0)) 5))) = 0
                ·
                 rw [if_pos c38] at H
                 exact absurd H (by simp)
                ·
                 rw [if_neg c38] at H
                 have c38b0 : ((wrap64 (2 + (Int.tmod (wrap64 (a0)) 5))) == 0) = false := beq_eq_false_iff_ne.mpr c38
                 have c38b1 : ((wrap64 (2 + (Int.tmod (wrap64 (a0)) 5))) != 0) = true := bne_iff_ne.mpr c38
                 obtain ⟨ji39, hji39⟩ : ∃ j_ : Int, (mn (Int.tmod (wrap64 (((rd_T57 (rd_L7 t318 x14_2) x17_3).f0) + (Int.tmod t330 (wrap64 (2 + (Int.tmod (wrap64 (a0)) 5)))))) (wrap64 (2 + (Int.tmod (wrap64 (a0)) 5)))) (Int.tmod (wrap64 (((rd_T57 (rd_L7 t318 x14_2) x17_3).f1) + (Int.tmod t330 (wrap64 (2 + (Int.tmod (wrap64 (a0)) 5)))))) (wrap64 (2 + (Int.tmod (wrap64 (a0)) 5))))) = j_ := ⟨_, rfl⟩
                 replace H : (if (wrap64 (Int.tdiv (wrap64 (2 + (Int.tmod (wrap64 (a0)) 5))) 2)) = 0 then (none) else (if x16_3.length < 5864062014805 then (kingpinlaw08_LeagueEvenest.l1 k3 l2 (wrap64 (2 + (Int.tmod (wrap64 (a0)) 5))) t318 t322 x12_2 (Int.tmod t330 (wrap64 (2 + (Int.tmod (wrap64 (a0)) 5)))) x14_2 (Int.tmod t334 (wrap64 (Int.tdiv (wrap64 (2 + (Int.tmod (wrap64 (a0)) 5))) 2))) (x16_3 ++ [(⟨ji39, mx (Int.tmod (wrap64 (((rd_T57 (rd_L7 t318 x14_2) x17_3).f0) + (Int.tmod t330 (wrap64 (2 + (Int.tmod (wrap64 (a0)) 5)))))) (wrap64 (2 + (Int.tmod (wrap64 (a0)) 5)))) (Int.tmod (wrap64 (((rd_T57 (rd_L7 t318 x14_2) x17_3).f1) + (Int.tmod t330 (wrap64 (2 + (Int.tmod (wrap64 (a0)) 5)))))) (wrap64 (2 + (Int.tmod (wrap64 (a0)) 5)))), Int.tmod (wrap64 (((rd_T57 (rd_L7 t318 x14_2) x17_3).f2) + (Int.tmod t334 (wrap64 (Int.tdiv (wrap64 (2 + (Int.tmod (wrap64 (a0)) 5))) 2))))) (wrap64 (Int.tdiv (wrap64 (2 + (Int.tmod (wrap64 (a0)) 5))) 2))⟩ : S57)]) (wrap64 (x17_3 + 1))) else (none))) = some r := by first | (rw [hji39] at H; exact H) | (simp only [hji39] at H ⊢; exact H)
                 have hji39_ : (if (Int.tmod (wrap64 (((rd_T57 (rd_L7 t318 x14_2) x17_3).f1) + (Int.tmod t330 (wrap64 (2 + (Int.tmod (wrap64 (a0)) 5)))))) (wrap64 (2 + (Int.tmod (wrap64 (a0)) 5)))) < (Int.tmod (wrap64 (((rd_T57 (rd_L7 t318 x14_2) x17_3).f0) + (Int.tmod t330 (wrap64 (2 + (Int.tmod (wrap64 (a0)) 5)))))) (wrap64 (2 + (Int.tmod (wrap64 (a0)) 5)))) then (Int.tmod (wrap64 (((rd_T57 (rd_L7 t318 x14_2) x17_3).f1) + (Int.tmod t330 (wrap64 (2 + (Int.tmod (wrap64 (a0)) 5)))))) (wrap64 (2 + (Int.tmod (wrap64 (a0)) 5)))) else (Int.tmod (wrap64 (((rd_T57 (rd_L7 t318 x14_2) x17_3).f0) + (Int.tmod t330 (wrap64 (2 + (Int.tmod (wrap64 (a0)) 5)))))) (wrap64 (2 + (Int.tmod (wrap64 (a0)) 5))))) = ji39 := hji39
                 obtain ⟨ji40, hji40⟩ : ∃ j_ : Int, (mx (Int.tmod (wrap64 (((rd_T57 (rd_L7 t318 x14_2) x17_3).f0) + (Int.tmod t330 (wrap64 (2 + (Int.tmod (wrap64 (a0)) 5)))))) (wrap64 (2 + (Int.tmod (wrap64 (a0)) 5)))) (Int.tmod (wrap64 (((rd_T57 (rd_L7 t318 x14_2) x17_3).f1) + (Int.tmod t330 (wrap64 (2 + (Int.tmod (wrap64 (a0)) 5)))))) (wrap64 (2 + (Int.tmod (wrap64 (a0)) 5))))) = j_ := ⟨_, rfl⟩
                 replace H : (if (wrap64 (Int.tdiv (wrap64 (2 + (Int.tmod (wrap64 (a0)) 5))) 2)) = 0 then (none) else (if x16_3.length < 5864062014805 then (kingpinlaw08_LeagueEvenest.l1 k3 l2 (wrap64 (2 + (Int.tmod (wrap64 (a0)) 5))) t318 t322 x12_2 (Int.tmod t330 (wrap64 (2 + (Int.tmod (wrap64 (a0)) 5)))) x14_2 (Int.tmod t334 (wrap64 (Int.tdiv (wrap64 (2 + (Int.tmod (wrap64 (a0)) 5))) 2))) (x16_3 ++ [(⟨ji39, ji40, Int.tmod (wrap64 (((rd_T57 (rd_L7 t318 x14_2) x17_3).f2) + (Int.tmod t334 (wrap64 (Int.tdiv (wrap64 (2 + (Int.tmod (wrap64 (a0)) 5))) 2))))) (wrap64 (Int.tdiv (wrap64 (2 + (Int.tmod (wrap64 (a0)) 5))) 2))⟩ : S57)]) (wrap64 (x17_3 + 1))) else (none))) = some r := by first | (rw [hji40] at H; exact H) | (simp only [hji40] at H ⊢; exact H)
                 have hji40_ : (if (Int.tmod (wrap64 (((rd_T57 (rd_L7 t318 x14_2) x17_3).f0) + (Int.tmod t330 (wrap64 (2 + (Int.tmod (wrap64 (a0)) 5)))))) (wrap64 (2 + (Int.tmod (wrap64 (a0)) 5)))) < (Int.tmod (wrap64 (((rd_T57 (rd_L7 t318 x14_2) x17_3).f1) + (Int.tmod t330 (wrap64 (2 + (Int.tmod (wrap64 (a0)) 5)))))) (wrap64 (2 + (Int.tmod (wrap64 (a0)) 5)))) then (Int.tmod (wrap64 (((rd_T57 (rd_L7 t318 x14_2) x17_3).f1) + (Int.tmod t330 (wrap64 (2 + (Int.tmod (wrap64 (a0)) 5)))))) (wrap64 (2 + (Int.tmod (wrap64 (a0)) 5)))) else (Int.tmod (wrap64 (((rd_T57 (rd_L7 t318 x14_2) x17_3).f0) + (Int.tmod t330 (wrap64 (2 + (Int.tmod (wrap64 (a0)) 5)))))) (wrap64 (2 + (Int.tmod (wrap64 (a0)) 5))))) = ji40 := hji40
                 by_cases c41 : (wrap64 (Int.tdiv (wrap64 (2 + (Int.tmod (wrap64 (a0)) 5))) 2)) = 0
                 ·
                  rw [if_pos c41] at H
                  exact absurd H (by simp)
                 ·
                  rw [if_neg c41] at H
                  have c41b0 : ((wrap64 (Int.tdiv (wrap64 (2 + (Int.tmod (wrap64 (a0)) 5))) 2)) == 0) = false := beq_eq_false_iff_ne.mpr c41
                  have c41b1 : ((wrap64 (Int.tdiv (wrap64 (2 + (Int.tmod (wrap64 (a0)) 5))) 2)) != 0) = true := bne_iff_ne.mpr c41
                  by_cases c42 : x16_3.length < 5864062014805
                  ·
                   rw [if_pos c42] at H
                   have LMc42 := Aside0.mk c42
                   clear c42
                   obtain ⟨y342, hy342⟩ : ∃ y_ : List (S57), y_ = (x16_3 ++ [(⟨ji39, ji40, Int.tmod (wrap64 (((rd_T57 (rd_L7 t318 x14_2) x17_3).f2) + (Int.tmod t334 (wrap64 (Int.tdiv (wrap64 (2 + (Int.tmod (wrap64 (a0)) 5))) 2))))) (wrap64 (Int.tdiv (wrap64 (2 + (Int.tmod (wrap64 (a0)) 5))) 2))⟩ : S57)]) := ⟨_, rfl⟩
                   replace H : (kingpinlaw08_LeagueEvenest.l1 k3 l2 (wrap64 (2 + (Int.tmod (wrap64 (a0)) 5))) t318 t322 x12_2 (Int.tmod t330 (wrap64 (2 + (Int.tmod (wrap64 (a0)) 5)))) x14_2 (Int.tmod t334 (wrap64 (Int.tdiv (wrap64 (2 + (Int.tmod (wrap64 (a0)) 5))) 2))) y342 (wrap64 (x17_3 + 1))) = some r := by first | (rw [hy342]; with_reducible exact H) | (have H2_ := (Option.bind_some _ _).symm.trans H; rw [hy342]; with_reducible exact H2_) | (have H2_ := (Option.bind_some _ _).symm.trans H; with_reducible exact H2_) | with_reducible exact H | (rw [hy342]; exact H) | exact H
                   have Ny342 := Aside0.mk hy342
                   clear hy342
                   have H' := Aside0.mk H
                   clear H
                   have p335 : 0 ≤ (x14_2 : Int) := of_decide_eq_true (by first | (with_reducible assumption) | assumption)
                   have q335 : x14_2 < (t318.length : Int) := of_decide_eq_true (by first | (with_reducible assumption) | assumption)
                   obtain ⟨ad335, A335_0, c335_0, e335, hx335_0, hl335_0, hi335_0⟩ := at_L7 (Kd.S_reads' HO_8.out).2.2 x14_2 p335 q335
                   cases e335
                   obtain ⟨ce335, hce335, hMe335, hcc335⟩ := Kd.S_get HO_8.out [] x14_2 p335 (by first | exact q335 | exact of_decide_eq_true (by first | (with_reducible assumption) | assumption) | (have e_ := (Kd.S_reads' HO_8.out).1; omega))
                   obtain ⟨ve335_0, rfl, ge335_0⟩ := hMe335
                   have hv335_0 := hcc335 0 _ rfl
                   rw [Nat.add_zero, show ((Kd.slice 57 k57)).sz = 1 from rfl, Nat.mul_one] at hv335_0
                   replace hv335_0 := Option.some.inj (hv335_0.symm.trans hx335_0)
                   rw [hv335_0] at ge335_0
                   have HL335_0 := Aside0.mk (show Kd.R k57 57 _ _ _ _ (rd_L7 t318 x14_2) from ge335_0)
                   clear hv335_0 ge335_0
                   clear hcc335 hce335
                   have HR335_0 := Aside0.mk hi335_0
                   have HC335_0 := Aside0.mk hl335_0
                   clear hi335_0 hl335_0
                   replace p335 := eq_true p335
                   replace q335 := eq_true q335
                   have p336 : 0 ≤ (x14_2 : Int) := of_decide_eq_true (by first | (with_reducible assumption) | assumption)
                   have q336 : x14_2 < (t318.length : Int) := of_decide_eq_true (by first | (with_reducible assumption) | assumption)
                   obtain ⟨ad336, A336_0, c336_0, e336, hx336_0, hl336_0, hi336_0⟩ := at_L7 (Kd.S_reads' HO_8.out).2.2 x14_2 p336 q336
                   obtain rfl : ad335 = ad336 := (by injection e336)
                   obtain ⟨ce336, hce336, hMe336, hcc336⟩ := Kd.S_get HO_8.out [] x14_2 p336 (by first | exact q336 | exact of_decide_eq_true (by first | (with_reducible assumption) | assumption) | (have e_ := (Kd.S_reads' HO_8.out).1; omega))
                   obtain ⟨ve336_0, rfl, ge336_0⟩ := hMe336
                   have hv336_0 := hcc336 0 _ rfl
                   rw [Nat.add_zero, show ((Kd.slice 57 k57)).sz = 1 from rfl, Nat.mul_one] at hv336_0
                   replace hv336_0 := Option.some.inj (hv336_0.symm.trans hx336_0)
                   rw [hv336_0] at ge336_0
                   have HL336_0 := Aside0.mk (show Kd.R k57 57 _ _ _ _ (rd_L7 t318 x14_2) from ge336_0)
                   clear hv336_0 ge336_0
                   clear hcc336 hce336
                   have HR336_0 := Aside0.mk hi336_0
                   have HC336_0 := Aside0.mk hl336_0
                   clear hi336_0 hl336_0
                   replace p336 := eq_true p336
                   replace q336 := eq_true q336
                   have ea_ := Option.some.inj (hx335_0.symm.trans hx336_0)
                   injection ea_ with ea_ en_ ec_
                   subst ea_
                   subst ec_
                   clear en_
                   have p337 : 0 ≤ (x17_3 : Int) := of_decide_eq_true (by first | (with_reducible assumption) | assumption)
                   have q337 : x17_3 < ((rd_L7 t318 x14_2).length : Int) := of_decide_eq_true (by first | (with_reducible assumption) | assumption)
                   obtain ⟨ad337, e337, hx337_0, hx337_1, hx337_2⟩ := at_T57 (by repeat (first | (with_reducible exact HR336_0.out) | (with_reducible refine Kd.C_alloc ?_ _) | (with_reducible refine Kd.C_drewN ?_ _) | (with_reducible refine Kd.C_drew ?_) | exact HR336_0.out)) x17_3 p337 q337
                   cases e337
                   replace p337 := eq_true p337
                   replace q337 := eq_true q337
                   have p338 : 0 ≤ (x14_2 : Int) := of_decide_eq_true (by first | (with_reducible assumption) | assumption)
                   have q338 : x14_2 < (t318.length : Int) := of_decide_eq_true (by first | (with_reducible assumption) | assumption)
                   obtain ⟨ad338, A338_0, c338_0, e338, hx338_0, hl338_0, hi338_0⟩ := at_L7 (Kd.S_reads' HO_8.out).2.2 x14_2 p338 q338
                   obtain rfl : ad335 = ad338 := (by injection e338)
                   obtain ⟨ce338, hce338, hMe338, hcc338⟩ := Kd.S_get HO_8.out [] x14_2 p338 (by first | exact q338 | exact of_decide_eq_true (by first | (with_reducible assumption) | assumption) | (have e_ := (Kd.S_reads' HO_8.out).1; omega))
                   obtain ⟨ve338_0, rfl, ge338_0⟩ := hMe338
                   have hv338_0 := hcc338 0 _ rfl
                   rw [Nat.add_zero, show ((Kd.slice 57 k57)).sz = 1 from rfl, Nat.mul_one] at hv338_0
                   replace hv338_0 := Option.some.inj (hv338_0.symm.trans hx338_0)
                   rw [hv338_0] at ge338_0
                   have HL338_0 := Aside0.mk (show Kd.R k57 57 _ _ _ _ (rd_L7 t318 x14_2) from ge338_0)
                   clear hv338_0 ge338_0
                   clear hcc338 hce338
                   have HR338_0 := Aside0.mk hi338_0
                   have HC338_0 := Aside0.mk hl338_0
                   clear hi338_0 hl338_0
                   replace p338 := eq_true p338
                   replace q338 := eq_true q338
                   have ea_ := Option.some.inj (hx335_0.symm.trans hx338_0)
                   injection ea_ with ea_ en_ ec_
                   subst ea_
                   subst ec_
                   clear en_
                   have p339 : 0 ≤ (x17_3 : Int) := of_decide_eq_true (by first | (with_reducible assumption) | assumption)
                   have q339 : x17_3 < ((rd_L7 t318 x14_2).length : Int) := of_decide_eq_true (by first | (with_reducible assumption) | assumption)
                   obtain ⟨ad339, e339, hx339_0, hx339_1, hx339_2⟩ := at_T57 (by repeat (first | (with_reducible exact HR338_0.out) | (with_reducible refine Kd.C_alloc ?_ _) | (with_reducible refine Kd.C_drewN ?_ _) | (with_reducible refine Kd.C_drew ?_) | exact HR338_0.out)) x17_3 p339 q339
                   cases e339
                   replace p339 := eq_true p339
                   replace q339 := eq_true q339
                   have p340 : 0 ≤ (x14_2 : Int) := of_decide_eq_true (by first | (with_reducible assumption) | assumption)
                   have q340 : x14_2 < (t318.length : Int) := of_decide_eq_true (by first | (with_reducible assumption) | assumption)
                   obtain ⟨ad340, A340_0, c340_0, e340, hx340_0, hl340_0, hi340_0⟩ := at_L7 (Kd.S_reads' HO_8.out).2.2 x14_2 p340 q340
                   obtain rfl : ad335 = ad340 := (by injection e340)
                   obtain ⟨ce340, hce340, hMe340, hcc340⟩ := Kd.S_get HO_8.out [] x14_2 p340 (by first | exact q340 | exact of_decide_eq_true (by first | (with_reducible assumption) | assumption) | (have e_ := (Kd.S_reads' HO_8.out).1; omega))
                   obtain ⟨ve340_0, rfl, ge340_0⟩ := hMe340
                   have hv340_0 := hcc340 0 _ rfl
                   rw [Nat.add_zero, show ((Kd.slice 57 k57)).sz = 1 from rfl, Nat.mul_one] at hv340_0
                   replace hv340_0 := Option.some.inj (hv340_0.symm.trans hx340_0)
                   rw [hv340_0] at ge340_0
                   have HL340_0 := Aside0.mk (show Kd.R k57 57 _ _ _ _ (rd_L7 t318 x14_2) from ge340_0)
                   clear hv340_0 ge340_0
                   clear hcc340 hce340
                   have HR340_0 := Aside0.mk hi340_0
                   have HC340_0 := Aside0.mk hl340_0
                   clear hi340_0 hl340_0
                   replace p340 := eq_true p340
                   replace q340 := eq_true q340
                   have ea_ := Option.some.inj (hx335_0.symm.trans hx340_0)
                   injection ea_ with ea_ en_ ec_
                   subst ea_
                   subst ec_
                   clear en_
                   have p341 : 0 ≤ (x17_3 : Int) := of_decide_eq_true (by first | (with_reducible assumption) | assumption)
                   have q341 : x17_3 < ((rd_L7 t318 x14_2).length : Int) := of_decide_eq_true (by first | (with_reducible assumption) | assumption)
                   obtain ⟨ad341, e341, hx341_0, hx341_1, hx341_2⟩ := at_T57 (by repeat (first | (with_reducible exact HR340_0.out) | (with_reducible refine Kd.C_alloc ?_ _) | (with_reducible refine Kd.C_drewN ?_ _) | (with_reducible refine Kd.C_drew ?_) | exact HR340_0.out)) x17_3 p341 q341
                   cases e341
                   replace p341 := eq_true p341
                   replace q341 := eq_true q341
                   go_wp2_with (first | ((with_reducible refine gate_builtin (b := .append) (xs := #[.tmp 119, .tmp 140]) rfl ?_); at_builtin; refine Kd.R_append k57 (w0 := w) w.heap.size rfl (.tmp 119) (.tmp 140) 55 57 (.agg #[(.int .i64 0), (.int .i64 0), (.int .i64 0)]) 24 rfl Try.underlying55 info57 rfl (by decide) (by omega) u16 x16_3 (⟨ji39, ji40, Int.tmod (wrap64 (((rd_T57 (rd_L7 t318 x14_2) x17_3).f2) + (Int.tmod t334 (wrap64 (Int.tdiv (wrap64 (2 + (Int.tmod (wrap64 (a0)) 5))) 2))))) (wrap64 (Int.tdiv (wrap64 (2 + (Int.tmod (wrap64 (a0)) 5))) 2))⟩ : S57) [.int .i64 ji39, .int .i64 ji40, .int .i64 (Int.tmod (wrap64 (((rd_T57 (rd_L7 t318 x14_2) x17_3).f2) + (Int.tmod t334 (wrap64 (Int.tdiv (wrap64 (2 + (Int.tmod (wrap64 (a0)) 5))) 2))))) (wrap64 (Int.tdiv (wrap64 (2 + (Int.tmod (wrap64 (a0)) 5))) 2)))] (fun _ => True) (fun _ => False) rfl rfl ?aP (fun _ hk => hk.elim) ?aF ?aO ?aB ?aS ?aL ?_; (case aP => exact k57_mkM _ _ _ (⟨ji39, ji40, Int.tmod (wrap64 (((rd_T57 (rd_L7 t318 x14_2) x17_3).f2) + (Int.tmod t334 (wrap64 (Int.tdiv (wrap64 (2 + (Int.tmod (wrap64 (a0)) 5))) 2))))) (wrap64 (Int.tdiv (wrap64 (2 + (Int.tmod (wrap64 (a0)) 5))) 2))⟩ : S57)); (case aB => exact (by repeat (first | (with_reducible first | exact HB.out | apply below_alloc | apply pw_below_drewN | apply below_drew1) | exact HB.out))); (case aF => exact (fun _ _ => trivial)); (case aO => exact (by (with_reducible repeat (first | apply Kd.R_alloc | apply Kd.R_drewN | apply Kd.R_drew)); exact HO_16.out)); (case aS => exact (below_size (by repeat (first | (with_reducible first | exact HB.out | apply below_alloc | apply pw_below_drewN | apply below_drew1) | exact HB.out)))); (case aL => have := LMc42.out; omega); intro v343 w43 ho hb hg hat; rw [← Ny342.out] at ho; have n0_ := Aside0.mk (Kd.S_after (ok := (fun k_ => some k_ ≠ (u12 : Value).ownBlock)) (by (with_reducible repeat (first | apply Kd.S_alloc | apply Kd.S_drewN | apply Kd.S_drew)); exact HO_8.out) hg hat); have n1_ := Aside0.mk (Kd.S_after (ok := (fun k_ => some k_ ≠ (.slice (some ad335) t318.length co10 : Value).ownBlock)) (by (with_reducible repeat (first | apply Kd.S_alloc | apply Kd.S_drewN | apply Kd.S_drew)); exact HO_12.out) hg hat); have n2_ := Aside0.mk (Kd.R_after (ok := (fun k_ => some k_ ≠ (.slice (some ad335) t318.length co10 : Value).ownBlock ∧ some k_ ≠ (u12 : Value).ownBlock)) (by (with_reducible repeat (first | apply Kd.R_alloc | apply Kd.R_drewN | apply Kd.R_drew)); exact Kd.R_mono HL335_0.out (fun _ hk => ⟨⟨hk.2, hk.1.1⟩, hk.1.2⟩)) hg hat); have n3_ := Aside0.mk (Kd.R_after (ok := (fun k_ => some k_ ≠ (.slice (some ad335) t318.length co10 : Value).ownBlock ∧ some k_ ≠ (u12 : Value).ownBlock)) (by (with_reducible repeat (first | apply Kd.R_alloc | apply Kd.R_drewN | apply Kd.R_drew)); exact Kd.R_mono HL336_0.out (fun _ hk => ⟨⟨hk.2, hk.1.1⟩, hk.1.2⟩)) hg hat); have n4_ := Aside0.mk (Kd.R_after (ok := (fun k_ => some k_ ≠ (.slice (some ad335) t318.length co10 : Value).ownBlock ∧ some k_ ≠ (u12 : Value).ownBlock)) (by (with_reducible repeat (first | apply Kd.R_alloc | apply Kd.R_drewN | apply Kd.R_drew)); exact Kd.R_mono HL338_0.out (fun _ hk => ⟨⟨hk.2, hk.1.1⟩, hk.1.2⟩)) hg hat); have n5_ := Aside0.mk (Kd.R_after (ok := (fun k_ => some k_ ≠ (.slice (some ad335) t318.length co10 : Value).ownBlock ∧ some k_ ≠ (u12 : Value).ownBlock)) (by (with_reducible repeat (first | apply Kd.R_alloc | apply Kd.R_drewN | apply Kd.R_drew)); exact Kd.R_mono HL340_0.out (fun _ hk => ⟨⟨hk.2, hk.1.1⟩, hk.1.2⟩)) hg hat); have n6_ := Aside0.mk (hb); have n7_ := Aside0.mk (ho); clear HO_8; clear HO_12; clear HL335_0; clear HL336_0; clear HL338_0; clear HL340_0; clear HB; clear HO_16; have HO_8 := n0_; have HO_12 := n1_; have HL335_0 := n2_; have HL336_0 := n3_; have HL338_0 := n4_; have HL340_0 := n5_; have HB := n6_; have HO344 := n7_; clear n0_ n1_ n2_ n3_ n4_ n5_ n6_ n7_; clear ho hb hg hat))
                   repeat (go_quiet (first | ((with_reducible refine gate_builtin (b := .append) (xs := #[.tmp 119, .tmp 140]) rfl ?_); at_builtin; refine Kd.R_append k57 (w0 := w) w.heap.size rfl (.tmp 119) (.tmp 140) 55 57 (.agg #[(.int .i64 0), (.int .i64 0), (.int .i64 0)]) 24 rfl Try.underlying55 info57 rfl (by decide) (by omega) u16 x16_3 (⟨ji39, ji40, Int.tmod (wrap64 (((rd_T57 (rd_L7 t318 x14_2) x17_3).f2) + (Int.tmod t334 (wrap64 (Int.tdiv (wrap64 (2 + (Int.tmod (wrap64 (a0)) 5))) 2))))) (wrap64 (Int.tdiv (wrap64 (2 + (Int.tmod (wrap64 (a0)) 5))) 2))⟩ : S57) [.int .i64 ji39, .int .i64 ji40, .int .i64 (Int.tmod (wrap64 (((rd_T57 (rd_L7 t318 x14_2) x17_3).f2) + (Int.tmod t334 (wrap64 (Int.tdiv (wrap64 (2 + (Int.tmod (wrap64 (a0)) 5))) 2))))) (wrap64 (Int.tdiv (wrap64 (2 + (Int.tmod (wrap64 (a0)) 5))) 2)))] (fun _ => True) (fun _ => False) rfl rfl ?aP (fun _ hk => hk.elim) ?aF ?aO ?aB ?aS ?aL ?_; (case aP => exact k57_mkM _ _ _ (⟨ji39, ji40, Int.tmod (wrap64 (((rd_T57 (rd_L7 t318 x14_2) x17_3).f2) + (Int.tmod t334 (wrap64 (Int.tdiv (wrap64 (2 + (Int.tmod (wrap64 (a0)) 5))) 2))))) (wrap64 (Int.tdiv (wrap64 (2 + (Int.tmod (wrap64 (a0)) 5))) 2))⟩ : S57)); (case aB => exact (by repeat (first | (with_reducible first | exact HB.out | apply below_alloc | apply pw_below_drewN | apply below_drew1) | exact HB.out))); (case aF => exact (fun _ _ => trivial)); (case aO => exact (by (with_reducible repeat (first | apply Kd.R_alloc | apply Kd.R_drewN | apply Kd.R_drew)); exact HO_16.out)); (case aS => exact (below_size (by repeat (first | (with_reducible first | exact HB.out | apply below_alloc | apply pw_below_drewN | apply below_drew1) | exact HB.out)))); (case aL => have := LMc42.out; omega); intro v343 w43 ho hb hg hat; rw [← Ny342.out] at ho; have n0_ := Aside0.mk (Kd.S_after (ok := (fun k_ => some k_ ≠ (u12 : Value).ownBlock)) (by (with_reducible repeat (first | apply Kd.S_alloc | apply Kd.S_drewN | apply Kd.S_drew)); exact HO_8.out) hg hat); have n1_ := Aside0.mk (Kd.S_after (ok := (fun k_ => some k_ ≠ (.slice (some ad335) t318.length co10 : Value).ownBlock)) (by (with_reducible repeat (first | apply Kd.S_alloc | apply Kd.S_drewN | apply Kd.S_drew)); exact HO_12.out) hg hat); have n2_ := Aside0.mk (Kd.R_after (ok := (fun k_ => some k_ ≠ (.slice (some ad335) t318.length co10 : Value).ownBlock ∧ some k_ ≠ (u12 : Value).ownBlock)) (by (with_reducible repeat (first | apply Kd.R_alloc | apply Kd.R_drewN | apply Kd.R_drew)); exact Kd.R_mono HL335_0.out (fun _ hk => ⟨⟨hk.2, hk.1.1⟩, hk.1.2⟩)) hg hat); have n3_ := Aside0.mk (Kd.R_after (ok := (fun k_ => some k_ ≠ (.slice (some ad335) t318.length co10 : Value).ownBlock ∧ some k_ ≠ (u12 : Value).ownBlock)) (by (with_reducible repeat (first | apply Kd.R_alloc | apply Kd.R_drewN | apply Kd.R_drew)); exact Kd.R_mono HL336_0.out (fun _ hk => ⟨⟨hk.2, hk.1.1⟩, hk.1.2⟩)) hg hat); have n4_ := Aside0.mk (Kd.R_after (ok := (fun k_ => some k_ ≠ (.slice (some ad335) t318.length co10 : Value).ownBlock ∧ some k_ ≠ (u12 : Value).ownBlock)) (by (with_reducible repeat (first | apply Kd.R_alloc | apply Kd.R_drewN | apply Kd.R_drew)); exact Kd.R_mono HL338_0.out (fun _ hk => ⟨⟨hk.2, hk.1.1⟩, hk.1.2⟩)) hg hat); have n5_ := Aside0.mk (Kd.R_after (ok := (fun k_ => some k_ ≠ (.slice (some ad335) t318.length co10 : Value).ownBlock ∧ some k_ ≠ (u12 : Value).ownBlock)) (by (with_reducible repeat (first | apply Kd.R_alloc | apply Kd.R_drewN | apply Kd.R_drew)); exact Kd.R_mono HL340_0.out (fun _ hk => ⟨⟨hk.2, hk.1.1⟩, hk.1.2⟩)) hg hat); have n6_ := Aside0.mk (hb); have n7_ := Aside0.mk (ho); clear HO_8; clear HO_12; clear HL335_0; clear HL336_0; clear HL338_0; clear HL340_0; clear HB; clear HO_16; have HO_8 := n0_; have HO_12 := n1_; have HL335_0 := n2_; have HL336_0 := n3_; have HL338_0 := n4_; have HL340_0 := n5_; have HB := n6_; have HO344 := n7_; clear n0_ n1_ n2_ n3_ n4_ n5_ n6_ n7_; clear ho hb hg hat)); try go_wp2_with (first | ((with_reducible refine gate_builtin (b := .append) (xs := #[.tmp 119, .tmp 140]) rfl ?_); at_builtin; refine Kd.R_append k57 (w0 := w) w.heap.size rfl (.tmp 119) (.tmp 140) 55 57 (.agg #[(.int .i64 0), (.int .i64 0), (.int .i64 0)]) 24 rfl Try.underlying55 info57 rfl (by decide) (by omega) u16 x16_3 (⟨ji39, ji40, Int.tmod (wrap64 (((rd_T57 (rd_L7 t318 x14_2) x17_3).f2) + (Int.tmod t334 (wrap64 (Int.tdiv (wrap64 (2 + (Int.tmod (wrap64 (a0)) 5))) 2))))) (wrap64 (Int.tdiv (wrap64 (2 + (Int.tmod (wrap64 (a0)) 5))) 2))⟩ : S57) [.int .i64 ji39, .int .i64 ji40, .int .i64 (Int.tmod (wrap64 (((rd_T57 (rd_L7 t318 x14_2) x17_3).f2) + (Int.tmod t334 (wrap64 (Int.tdiv (wrap64 (2 + (Int.tmod (wrap64 (a0)) 5))) 2))))) (wrap64 (Int.tdiv (wrap64 (2 + (Int.tmod (wrap64 (a0)) 5))) 2)))] (fun _ => True) (fun _ => False) rfl rfl ?aP (fun _ hk => hk.elim) ?aF ?aO ?aB ?aS ?aL ?_; (case aP => exact k57_mkM _ _ _ (⟨ji39, ji40, Int.tmod (wrap64 (((rd_T57 (rd_L7 t318 x14_2) x17_3).f2) + (Int.tmod t334 (wrap64 (Int.tdiv (wrap64 (2 + (Int.tmod (wrap64 (a0)) 5))) 2))))) (wrap64 (Int.tdiv (wrap64 (2 + (Int.tmod (wrap64 (a0)) 5))) 2))⟩ : S57)); (case aB => exact (by repeat (first | (with_reducible first | exact HB.out | apply below_alloc | apply pw_below_drewN | apply below_drew1) | exact HB.out))); (case aF => exact (fun _ _ => trivial)); (case aO => exact (by (with_reducible repeat (first | apply Kd.R_alloc | apply Kd.R_drewN | apply Kd.R_drew)); exact HO_16.out)); (case aS => exact (below_size (by repeat (first | (with_reducible first | exact HB.out | apply below_alloc | apply pw_below_drewN | apply below_drew1) | exact HB.out)))); (case aL => have := LMc42.out; omega); intro v343 w43 ho hb hg hat; rw [← Ny342.out] at ho; have n0_ := Aside0.mk (Kd.S_after (ok := (fun k_ => some k_ ≠ (u12 : Value).ownBlock)) (by (with_reducible repeat (first | apply Kd.S_alloc | apply Kd.S_drewN | apply Kd.S_drew)); exact HO_8.out) hg hat); have n1_ := Aside0.mk (Kd.S_after (ok := (fun k_ => some k_ ≠ (.slice (some ad335) t318.length co10 : Value).ownBlock)) (by (with_reducible repeat (first | apply Kd.S_alloc | apply Kd.S_drewN | apply Kd.S_drew)); exact HO_12.out) hg hat); have n2_ := Aside0.mk (Kd.R_after (ok := (fun k_ => some k_ ≠ (.slice (some ad335) t318.length co10 : Value).ownBlock ∧ some k_ ≠ (u12 : Value).ownBlock)) (by (with_reducible repeat (first | apply Kd.R_alloc | apply Kd.R_drewN | apply Kd.R_drew)); exact Kd.R_mono HL335_0.out (fun _ hk => ⟨⟨hk.2, hk.1.1⟩, hk.1.2⟩)) hg hat); have n3_ := Aside0.mk (Kd.R_after (ok := (fun k_ => some k_ ≠ (.slice (some ad335) t318.length co10 : Value).ownBlock ∧ some k_ ≠ (u12 : Value).ownBlock)) (by (with_reducible repeat (first | apply Kd.R_alloc | apply Kd.R_drewN | apply Kd.R_drew)); exact Kd.R_mono HL336_0.out (fun _ hk => ⟨⟨hk.2, hk.1.1⟩, hk.1.2⟩)) hg hat); have n4_ := Aside0.mk (Kd.R_after (ok := (fun k_ => some k_ ≠ (.slice (some ad335) t318.length co10 : Value).ownBlock ∧ some k_ ≠ (u12 : Value).ownBlock)) (by (with_reducible repeat (first | apply Kd.R_alloc | apply Kd.R_drewN | apply Kd.R_drew)); exact Kd.R_mono HL338_0.out (fun _ hk => ⟨⟨hk.2, hk.1.1⟩, hk.1.2⟩)) hg hat); have n5_ := Aside0.mk (Kd.R_after (ok := (fun k_ => some k_ ≠ (.slice (some ad335) t318.length co10 : Value).ownBlock ∧ some k_ ≠ (u12 : Value).ownBlock)) (by (with_reducible repeat (first | apply Kd.R_alloc | apply Kd.R_drewN | apply Kd.R_drew)); exact Kd.R_mono HL340_0.out (fun _ hk => ⟨⟨hk.2, hk.1.1⟩, hk.1.2⟩)) hg hat); have n6_ := Aside0.mk (hb); have n7_ := Aside0.mk (ho); clear HO_8; clear HO_12; clear HL335_0; clear HL336_0; clear HL338_0; clear HL340_0; clear HB; clear HO_16; have HO_8 := n0_; have HO_12 := n1_; have HL335_0 := n2_; have HL336_0 := n3_; have HL338_0 := n4_; have HL340_0 := n5_; have HB := n6_; have HO344 := n7_; clear n0_ n1_ n2_ n3_ n4_ n5_ n6_ n7_; clear ho hb hg hat)))
                   go_roundg k3
                   case measure => have := HJ7.out; have := HK2.out; have := HK3.out; omega
                   case rel => exact ⟨(y342), (wrap64 (x17_3 + 1)), (by first | rfl | (simp; done) | (simp [*]; done)), H', ⟨by have := HJ7.out; have := HK2.out; have := HK3.out; omega⟩, ⟨by (with_reducible repeat (first | apply Kd.S_alloc | apply Kd.S_drewN | apply Kd.S_drew)); exact HO_8.out⟩, ⟨by (with_reducible repeat (first | apply Kd.S_alloc | apply Kd.S_drewN | apply Kd.S_drew)); exact HO_12.out⟩, ⟨by (with_reducible repeat (first | apply Kd.R_alloc | apply Kd.R_drewN | apply Kd.R_drew)); exact HO344.out⟩, ⟨by repeat (first | (with_reducible first | exact HB.out | apply below_alloc | apply pw_below_drewN | apply below_drew1) | exact HB.out)⟩⟩
                  ·
                   rw [if_neg c42] at H
                   exact absurd H (by simp)
               ·
                rw [if_neg c37] at H
                exact absurd H (by simp)
              ·
               rw [if_neg c36] at H
               have c36b0 : decide (x17_3 < ((rd_L7 t318 x14_2).length : Int)) = false := decide_eq_false c36
               clear c36
               by_cases c44 : x12_2.length < 5864062014805
               ·
                rw [if_pos c44] at H
                have LMc44 := Aside0.mk c44
                clear c44
                obtain ⟨y345, hy345⟩ : ∃ y_ : List (List (S57)), y_ = (x12_2 ++ [x16_3]) := ⟨_, rfl⟩
                replace H : (kingpinlaw08_LeagueEvenest.l0 k3 l2 (wrap64 (2 + (Int.tmod (wrap64 (a0)) 5))) t318 t322 y345 (Int.tmod t330 (wrap64 (2 + (Int.tmod (wrap64 (a0)) 5)))) (wrap64 (x14_2 + 1))) = some r := by first | (rw [hy345]; with_reducible exact H) | (have H2_ := (Option.bind_some _ _).symm.trans H; rw [hy345]; with_reducible exact H2_) | (have H2_ := (Option.bind_some _ _).symm.trans H; with_reducible exact H2_) | with_reducible exact H | (rw [hy345]; exact H) | exact H
                have Ny345 := Aside0.mk hy345
                clear hy345
                have H' := Aside0.mk H
                clear H
                have p335 : 0 ≤ (x14_2 : Int) := of_decide_eq_true (by first | (with_reducible assumption) | assumption)
                have q335 : x14_2 < (t318.length : Int) := of_decide_eq_true (by first | (with_reducible assumption) | assumption)
                obtain ⟨ad335, A335_0, c335_0, e335, hx335_0, hl335_0, hi335_0⟩ := at_L7 (Kd.S_reads' HO_8.out).2.2 x14_2 p335 q335
                cases e335
                obtain ⟨ce335, hce335, hMe335, hcc335⟩ := Kd.S_get HO_8.out [] x14_2 p335 (by first | exact q335 | exact of_decide_eq_true (by first | (with_reducible assumption) | assumption) | (have e_ := (Kd.S_reads' HO_8.out).1; omega))
                obtain ⟨ve335_0, rfl, ge335_0⟩ := hMe335
                have hv335_0 := hcc335 0 _ rfl
                rw [Nat.add_zero, show ((Kd.slice 57 k57)).sz = 1 from rfl, Nat.mul_one] at hv335_0
                replace hv335_0 := Option.some.inj (hv335_0.symm.trans hx335_0)
                rw [hv335_0] at ge335_0
                have HL335_0 := Aside0.mk (show Kd.R k57 57 _ _ _ _ (rd_L7 t318 x14_2) from ge335_0)
                clear hv335_0 ge335_0
                clear hcc335 hce335
                have HR335_0 := Aside0.mk hi335_0
                have HC335_0 := Aside0.mk hl335_0
                clear hi335_0 hl335_0
                replace p335 := eq_true p335
                replace q335 := eq_true q335
                obtain ⟨Ao46, co46, eo46⟩ := Kd.R_slice HO_16.out
                subst eo46
                go_wp2_with (first | ((with_reducible refine gate_builtin (b := .append) (xs := #[.tmp 142, .tmp 144]) rfl ?_); at_builtin; refine Kd.S_append (Kd.slice 57 k57) (w0 := w) w.heap.size rfl (.tmp 142) (.tmp 144) 47 55 (.slice none 0 0) 24 rfl Try.underlying47 info55 rfl (by decide) (by omega) u12 x12_2 x16_3 [.slice Ao46 x16_3.length co46] (fun k_ => some k_ ≠ (.slice (some ad335) t318.length co10 : Value).ownBlock) (fun k_ => some k_ = (.slice Ao46 x16_3.length co46 : Value).ownBlock) rfl rfl ?aP (fun k_ hk_ => ((Kd.R_mono (ok' := fun k_ => ((fun k_ => some k_ ≠ (.slice (some ad335) t318.length co10 : Value).ownBlock)) k_ ∧ some k_ ≠ (u12 : Value).ownBlock) (Kd.R_apart' (Kd.R_apart' (HO_16.out) (Kd.S_typed HO_8.out) (by decide)) (Kd.S_typed HO_12.out) (by decide)) (fun k_ hk => ⟨hk.1.2, hk.2⟩))).1 k_ hk_.symm) ?aF ?aO ?aB ?aS ?aL ?_; (case aP => exact Kd.M_row (Kd.R_mono (Kd.R_tight rfl (Kd.R_mono (ok' := fun k_ => ((fun k_ => some k_ ≠ (.slice (some ad335) t318.length co10 : Value).ownBlock)) k_ ∧ some k_ ≠ (u12 : Value).ownBlock) (Kd.R_apart' (Kd.R_apart' (HO_16.out) (Kd.S_typed HO_8.out) (by decide)) (Kd.S_typed HO_12.out) (by decide)) (fun k_ hk => ⟨hk.1.2, hk.2⟩))) (fun _ h_ => h_))); (case aB => exact (by repeat (first | (with_reducible first | exact HB.out | apply below_alloc | apply pw_below_drewN | apply below_drew1) | exact HB.out))); (case aF => exact (fun k_ hk => Kd.fresh' (Kd.S_lt (by (with_reducible repeat (first | apply Kd.S_alloc | apply Kd.S_drewN | apply Kd.S_drew)); exact HO_8.out)) k_ hk)); (case aO => exact (by (with_reducible repeat (first | apply Kd.S_alloc | apply Kd.S_drewN | apply Kd.S_drew)); exact Kd.S_mono HO_12.out (fun k_ hk => ⟨hk.1, fun e_ => hk.2 e_⟩))); (case aS => exact (below_size (by repeat (first | (with_reducible first | exact HB.out | apply below_alloc | apply pw_below_drewN | apply below_drew1) | exact HB.out)))); (case aL => have := LMc44.out; omega); intro v346 w45 ho hb hg hat; rw [← Ny345.out] at ho; have n0_ := Aside0.mk (Kd.S_after (ok := (fun k_ => some k_ ≠ (.slice Ao46 x16_3.length co46 : Value).ownBlock)) (by (with_reducible repeat (first | apply Kd.S_alloc | apply Kd.S_drewN | apply Kd.S_drew)); exact Kd.S_mono HO_8.out (fun _ hk => ⟨hk.2, hk.1⟩)) hg hat); have n1_ := Aside0.mk (Kd.R_after (ok := (fun k_ => some k_ ≠ (.slice (some ad335) t318.length co10 : Value).ownBlock ∧ some k_ ≠ (.slice Ao46 x16_3.length co46 : Value).ownBlock)) (by (with_reducible repeat (first | apply Kd.R_alloc | apply Kd.R_drewN | apply Kd.R_drew)); exact Kd.R_mono HL335_0.out (fun _ hk => ⟨⟨hk.2, hk.1.2⟩, hk.1.1⟩)) hg hat); have n2_ := Aside0.mk (hb); have n3_ := Aside0.mk (ho); clear HO_8; clear HL335_0; clear HB; clear HO_12; clear HO_16; have HO_8 := n0_; have HL335_0 := n1_; have HB := n2_; have HO347 := n3_; clear n0_ n1_ n2_ n3_; clear ho hb hg hat))
                repeat (go_quiet (first | ((with_reducible refine gate_builtin (b := .append) (xs := #[.tmp 142, .tmp 144]) rfl ?_); at_builtin; refine Kd.S_append (Kd.slice 57 k57) (w0 := w) w.heap.size rfl (.tmp 142) (.tmp 144) 47 55 (.slice none 0 0) 24 rfl Try.underlying47 info55 rfl (by decide) (by omega) u12 x12_2 x16_3 [.slice Ao46 x16_3.length co46] (fun k_ => some k_ ≠ (.slice (some ad335) t318.length co10 : Value).ownBlock) (fun k_ => some k_ = (.slice Ao46 x16_3.length co46 : Value).ownBlock) rfl rfl ?aP (fun k_ hk_ => ((Kd.R_mono (ok' := fun k_ => ((fun k_ => some k_ ≠ (.slice (some ad335) t318.length co10 : Value).ownBlock)) k_ ∧ some k_ ≠ (u12 : Value).ownBlock) (Kd.R_apart' (Kd.R_apart' (HO_16.out) (Kd.S_typed HO_8.out) (by decide)) (Kd.S_typed HO_12.out) (by decide)) (fun k_ hk => ⟨hk.1.2, hk.2⟩))).1 k_ hk_.symm) ?aF ?aO ?aB ?aS ?aL ?_; (case aP => exact Kd.M_row (Kd.R_mono (Kd.R_tight rfl (Kd.R_mono (ok' := fun k_ => ((fun k_ => some k_ ≠ (.slice (some ad335) t318.length co10 : Value).ownBlock)) k_ ∧ some k_ ≠ (u12 : Value).ownBlock) (Kd.R_apart' (Kd.R_apart' (HO_16.out) (Kd.S_typed HO_8.out) (by decide)) (Kd.S_typed HO_12.out) (by decide)) (fun k_ hk => ⟨hk.1.2, hk.2⟩))) (fun _ h_ => h_))); (case aB => exact (by repeat (first | (with_reducible first | exact HB.out | apply below_alloc | apply pw_below_drewN | apply below_drew1) | exact HB.out))); (case aF => exact (fun k_ hk => Kd.fresh' (Kd.S_lt (by (with_reducible repeat (first | apply Kd.S_alloc | apply Kd.S_drewN | apply Kd.S_drew)); exact HO_8.out)) k_ hk)); (case aO => exact (by (with_reducible repeat (first | apply Kd.S_alloc | apply Kd.S_drewN | apply Kd.S_drew)); exact Kd.S_mono HO_12.out (fun k_ hk => ⟨hk.1, fun e_ => hk.2 e_⟩))); (case aS => exact (below_size (by repeat (first | (with_reducible first | exact HB.out | apply below_alloc | apply pw_below_drewN | apply below_drew1) | exact HB.out)))); (case aL => have := LMc44.out; omega); intro v346 w45 ho hb hg hat; rw [← Ny345.out] at ho; have n0_ := Aside0.mk (Kd.S_after (ok := (fun k_ => some k_ ≠ (.slice Ao46 x16_3.length co46 : Value).ownBlock)) (by (with_reducible repeat (first | apply Kd.S_alloc | apply Kd.S_drewN | apply Kd.S_drew)); exact Kd.S_mono HO_8.out (fun _ hk => ⟨hk.2, hk.1⟩)) hg hat); have n1_ := Aside0.mk (Kd.R_after (ok := (fun k_ => some k_ ≠ (.slice (some ad335) t318.length co10 : Value).ownBlock ∧ some k_ ≠ (.slice Ao46 x16_3.length co46 : Value).ownBlock)) (by (with_reducible repeat (first | apply Kd.R_alloc | apply Kd.R_drewN | apply Kd.R_drew)); exact Kd.R_mono HL335_0.out (fun _ hk => ⟨⟨hk.2, hk.1.2⟩, hk.1.1⟩)) hg hat); have n2_ := Aside0.mk (hb); have n3_ := Aside0.mk (ho); clear HO_8; clear HL335_0; clear HB; clear HO_12; clear HO_16; have HO_8 := n0_; have HL335_0 := n1_; have HB := n2_; have HO347 := n3_; clear n0_ n1_ n2_ n3_; clear ho hb hg hat)); try go_wp2_with (first | ((with_reducible refine gate_builtin (b := .append) (xs := #[.tmp 142, .tmp 144]) rfl ?_); at_builtin; refine Kd.S_append (Kd.slice 57 k57) (w0 := w) w.heap.size rfl (.tmp 142) (.tmp 144) 47 55 (.slice none 0 0) 24 rfl Try.underlying47 info55 rfl (by decide) (by omega) u12 x12_2 x16_3 [.slice Ao46 x16_3.length co46] (fun k_ => some k_ ≠ (.slice (some ad335) t318.length co10 : Value).ownBlock) (fun k_ => some k_ = (.slice Ao46 x16_3.length co46 : Value).ownBlock) rfl rfl ?aP (fun k_ hk_ => ((Kd.R_mono (ok' := fun k_ => ((fun k_ => some k_ ≠ (.slice (some ad335) t318.length co10 : Value).ownBlock)) k_ ∧ some k_ ≠ (u12 : Value).ownBlock) (Kd.R_apart' (Kd.R_apart' (HO_16.out) (Kd.S_typed HO_8.out) (by decide)) (Kd.S_typed HO_12.out) (by decide)) (fun k_ hk => ⟨hk.1.2, hk.2⟩))).1 k_ hk_.symm) ?aF ?aO ?aB ?aS ?aL ?_; (case aP => exact Kd.M_row (Kd.R_mono (Kd.R_tight rfl (Kd.R_mono (ok' := fun k_ => ((fun k_ => some k_ ≠ (.slice (some ad335) t318.length co10 : Value).ownBlock)) k_ ∧ some k_ ≠ (u12 : Value).ownBlock) (Kd.R_apart' (Kd.R_apart' (HO_16.out) (Kd.S_typed HO_8.out) (by decide)) (Kd.S_typed HO_12.out) (by decide)) (fun k_ hk => ⟨hk.1.2, hk.2⟩))) (fun _ h_ => h_))); (case aB => exact (by repeat (first | (with_reducible first | exact HB.out | apply below_alloc | apply pw_below_drewN | apply below_drew1) | exact HB.out))); (case aF => exact (fun k_ hk => Kd.fresh' (Kd.S_lt (by (with_reducible repeat (first | apply Kd.S_alloc | apply Kd.S_drewN | apply Kd.S_drew)); exact HO_8.out)) k_ hk)); (case aO => exact (by (with_reducible repeat (first | apply Kd.S_alloc | apply Kd.S_drewN | apply Kd.S_drew)); exact Kd.S_mono HO_12.out (fun k_ hk => ⟨hk.1, fun e_ => hk.2 e_⟩))); (case aS => exact (below_size (by repeat (first | (with_reducible first | exact HB.out | apply below_alloc | apply pw_below_drewN | apply below_drew1) | exact HB.out)))); (case aL => have := LMc44.out; omega); intro v346 w45 ho hb hg hat; rw [← Ny345.out] at ho; have n0_ := Aside0.mk (Kd.S_after (ok := (fun k_ => some k_ ≠ (.slice Ao46 x16_3.length co46 : Value).ownBlock)) (by (with_reducible repeat (first | apply Kd.S_alloc | apply Kd.S_drewN | apply Kd.S_drew)); exact Kd.S_mono HO_8.out (fun _ hk => ⟨hk.2, hk.1⟩)) hg hat); have n1_ := Aside0.mk (Kd.R_after (ok := (fun k_ => some k_ ≠ (.slice (some ad335) t318.length co10 : Value).ownBlock ∧ some k_ ≠ (.slice Ao46 x16_3.length co46 : Value).ownBlock)) (by (with_reducible repeat (first | apply Kd.R_alloc | apply Kd.R_drewN | apply Kd.R_drew)); exact Kd.R_mono HL335_0.out (fun _ hk => ⟨⟨hk.2, hk.1.2⟩, hk.1.1⟩)) hg hat); have n2_ := Aside0.mk (hb); have n3_ := Aside0.mk (ho); clear HO_8; clear HL335_0; clear HB; clear HO_12; clear HO_16; have HO_8 := n0_; have HL335_0 := n1_; have HB := n2_; have HO347 := n3_; clear n0_ n1_ n2_ n3_; clear ho hb hg hat)))
                go_roundg k3
                case measure => have := HJ7.out; have := HK2.out; have := HK3.out; omega
                case rel => exact ⟨(y345), (wrap64 (x14_2 + 1)), (by first | rfl | (simp; done) | (simp [*]; done)), H', ⟨by have := HJ7.out; have := HK2.out; have := HK3.out; omega⟩, ⟨by (with_reducible repeat (first | apply Kd.S_alloc | apply Kd.S_drewN | apply Kd.S_drew)); exact Kd.S_mono HO_8.out (fun _ hk => hk.2)⟩, ⟨by (with_reducible repeat (first | apply Kd.S_alloc | apply Kd.S_drewN | apply Kd.S_drew)); exact HO347.out⟩, ⟨by repeat (first | (with_reducible first | exact HB.out | apply below_alloc | apply pw_below_drewN | apply below_drew1) | exact HB.out)⟩⟩
               ·
                rw [if_neg c44] at H
                exact absurd H (by simp)
             ·
              rw [if_neg c35] at H
              exact absurd H (by simp)
            ·
             rw [if_neg c34] at H
             exact absurd H (by simp)
        ·
         rw [if_neg c31] at H
         have c31b0 : decide (x14_2 < (t318.length : Int)) = false := decide_eq_false c31
         clear c31
         replace H := Option.bind_eq_some_iff.mp H
         obtain ⟨⟨t331, t332⟩, A470, H⟩ := H
         replace H : (if t332 = 0 then (if t331 ≥ t322 then ((kingpinlaw08_awake.f).bind fun t333 => (some t333)) else (some false)) else (some false)) = some r := H
         have A47 := Aside0.mk A470
         clear A470
         by_cases c48 : t332 = 0
         ·
          rw [if_pos c48] at H
          have c48b0 : (t332 == 0) = true := beq_iff_eq.mpr c48
          have c48b1 : (t332 != 0) = false := bne_eq_false_iff_eq.mpr c48
          clear c48
          by_cases c49 : t331 ≥ t322
          ·
           rw [if_pos c49] at H
           have c49b0 : decide (t322 ≤ t331) = true := decide_eq_true c49
           clear c49
           replace H := Option.bind_eq_some_iff.mp H
           obtain ⟨t333, A500, H⟩ := H
           replace H : (some t333) = some r := H
           have A50 := Aside0.mk A500
           clear A500
           obtain rfl := Option.some.inj H
           obtain ⟨Ao51, co51, eo51⟩ := Kd.S_slice HO_12.out
           subst eo51
           go_wp2_with (first | (go_at_call 30; (with_reducible refine (league_Uneven.calls (wrap64 (2 + (Int.tmod (wrap64 (a0)) 5))) _ _ x12_2 t331 t332 _ ?side1 ?side2 A47.out).mono ?_); (case side1 => repeat (first | exact (Kd.S_reads' HO_12.out).2.2 | (with_reducible refine Kd.C_alloc ?_ _) | (with_reducible refine Kd.C_drewN ?_ _) | (with_reducible refine Kd.C_drew ?_))); (case side2 => exact (Kd.S_reads' HO_12.out).2.1); rintro e w52 ⟨rfl, hb⟩; have n0_ := Aside0.mk (Kd.S_below (by (with_reducible repeat (first | apply Kd.S_alloc | apply Kd.S_drewN | apply Kd.S_drew)); exact HO_8.out) hb); have n1_ := Aside0.mk (Kd.S_below (by (with_reducible repeat (first | apply Kd.S_alloc | apply Kd.S_drewN | apply Kd.S_drew)); exact HO_12.out) hb); have n2_ := Aside0.mk (below_step (by repeat (first | (with_reducible first | exact HB.out | apply below_alloc | apply pw_below_drewN | apply below_drew1) | exact HB.out)) hb); clear HO_8; clear HO_12; clear HB; have HO_8 := n0_; have HO_12 := n1_; have HB := n2_; clear n0_ n1_ n2_; (try clear hb); (try clear hb2); (try clear hk); (try clear hi)) | (go_at_call 16; (with_reducible refine (kingpinlaw08_awake.calls  t333 _ A50.out).mono ?_); rintro e w53 ⟨rfl, hb⟩; have n0_ := Aside0.mk (Kd.S_below (by (with_reducible repeat (first | apply Kd.S_alloc | apply Kd.S_drewN | apply Kd.S_drew)); exact HO_8.out) hb); have n1_ := Aside0.mk (Kd.S_below (by (with_reducible repeat (first | apply Kd.S_alloc | apply Kd.S_drewN | apply Kd.S_drew)); exact HO_12.out) hb); have n2_ := Aside0.mk (below_step (by repeat (first | (with_reducible first | exact HB.out | apply below_alloc | apply pw_below_drewN | apply below_drew1) | exact HB.out)) hb); clear HO_8; clear HO_12; clear HB; have HO_8 := n0_; have HO_12 := n1_; have HB := n2_; clear n0_ n1_ n2_; (try clear hb); (try clear hb2); (try clear hk); (try clear hi)))
           repeat (go_quiet (first | (go_at_call 30; (with_reducible refine (league_Uneven.calls (wrap64 (2 + (Int.tmod (wrap64 (a0)) 5))) _ _ x12_2 t331 t332 _ ?side1 ?side2 A47.out).mono ?_); (case side1 => repeat (first | exact (Kd.S_reads' HO_12.out).2.2 | (with_reducible refine Kd.C_alloc ?_ _) | (with_reducible refine Kd.C_drewN ?_ _) | (with_reducible refine Kd.C_drew ?_))); (case side2 => exact (Kd.S_reads' HO_12.out).2.1); rintro e w52 ⟨rfl, hb⟩; have n0_ := Aside0.mk (Kd.S_below (by (with_reducible repeat (first | apply Kd.S_alloc | apply Kd.S_drewN | apply Kd.S_drew)); exact HO_8.out) hb); have n1_ := Aside0.mk (Kd.S_below (by (with_reducible repeat (first | apply Kd.S_alloc | apply Kd.S_drewN | apply Kd.S_drew)); exact HO_12.out) hb); have n2_ := Aside0.mk (below_step (by repeat (first | (with_reducible first | exact HB.out | apply below_alloc | apply pw_below_drewN | apply below_drew1) | exact HB.out)) hb); clear HO_8; clear HO_12; clear HB; have HO_8 := n0_; have HO_12 := n1_; have HB := n2_; clear n0_ n1_ n2_; (try clear hb); (try clear hb2); (try clear hk); (try clear hi)) | (go_at_call 16; (with_reducible refine (kingpinlaw08_awake.calls  t333 _ A50.out).mono ?_); rintro e w53 ⟨rfl, hb⟩; have n0_ := Aside0.mk (Kd.S_below (by (with_reducible repeat (first | apply Kd.S_alloc | apply Kd.S_drewN | apply Kd.S_drew)); exact HO_8.out) hb); have n1_ := Aside0.mk (Kd.S_below (by (with_reducible repeat (first | apply Kd.S_alloc | apply Kd.S_drewN | apply Kd.S_drew)); exact HO_12.out) hb); have n2_ := Aside0.mk (below_step (by repeat (first | (with_reducible first | exact HB.out | apply below_alloc | apply pw_below_drewN | apply below_drew1) | exact HB.out)) hb); clear HO_8; clear HO_12; clear HB; have HO_8 := n0_; have HO_12 := n1_; have HB := n2_; clear n0_ n1_ n2_; (try clear hb); (try clear hb2); (try clear hk); (try clear hi))); try go_wp2_with (first | (go_at_call 30; (with_reducible refine (league_Uneven.calls (wrap64 (2 + (Int.tmod (wrap64 (a0)) 5))) _ _ x12_2 t331 t332 _ ?side1 ?side2 A47.out).mono ?_); (case side1 => repeat (first | exact (Kd.S_reads' HO_12.out).2.2 | (with_reducible refine Kd.C_alloc ?_ _) | (with_reducible refine Kd.C_drewN ?_ _) | (with_reducible refine Kd.C_drew ?_))); (case side2 => exact (Kd.S_reads' HO_12.out).2.1); rintro e w52 ⟨rfl, hb⟩; have n0_ := Aside0.mk (Kd.S_below (by (with_reducible repeat (first | apply Kd.S_alloc | apply Kd.S_drewN | apply Kd.S_drew)); exact HO_8.out) hb); have n1_ := Aside0.mk (Kd.S_below (by (with_reducible repeat (first | apply Kd.S_alloc | apply Kd.S_drewN | apply Kd.S_drew)); exact HO_12.out) hb); have n2_ := Aside0.mk (below_step (by repeat (first | (with_reducible first | exact HB.out | apply below_alloc | apply pw_below_drewN | apply below_drew1) | exact HB.out)) hb); clear HO_8; clear HO_12; clear HB; have HO_8 := n0_; have HO_12 := n1_; have HB := n2_; clear n0_ n1_ n2_; (try clear hb); (try clear hb2); (try clear hk); (try clear hi)) | (go_at_call 16; (with_reducible refine (kingpinlaw08_awake.calls  t333 _ A50.out).mono ?_); rintro e w53 ⟨rfl, hb⟩; have n0_ := Aside0.mk (Kd.S_below (by (with_reducible repeat (first | apply Kd.S_alloc | apply Kd.S_drewN | apply Kd.S_drew)); exact HO_8.out) hb); have n1_ := Aside0.mk (Kd.S_below (by (with_reducible repeat (first | apply Kd.S_alloc | apply Kd.S_drewN | apply Kd.S_drew)); exact HO_12.out) hb); have n2_ := Aside0.mk (below_step (by repeat (first | (with_reducible first | exact HB.out | apply below_alloc | apply pw_below_drewN | apply below_drew1) | exact HB.out)) hb); clear HO_8; clear HO_12; clear HB; have HO_8 := n0_; have HO_12 := n1_; have HB := n2_; clear n0_ n1_ n2_; (try clear hb); (try clear hb2); (try clear hk); (try clear hi))))
           go_ret
           exact ⟨by first | rfl | (simp [errW_none, errW_some] <;> rfl) | (simp [*, errW_none, errW_some] <;> rfl), by repeat (first | (with_reducible first | exact HB.out | apply below_alloc | apply pw_below_drewN | apply below_drew1) | exact HB.out)⟩
          ·
           rw [if_neg c49] at H
           have c49b0 : decide (t322 ≤ t331) = false := decide_eq_false c49
           clear c49
           obtain rfl := Option.some.inj H
           obtain ⟨Ao54, co54, eo54⟩ := Kd.S_slice HO_12.out
           subst eo54
           go_wp2_with (first | (go_at_call 30; (with_reducible refine (league_Uneven.calls (wrap64 (2 + (Int.tmod (wrap64 (a0)) 5))) _ _ x12_2 t331 t332 _ ?side1 ?side2 A47.out).mono ?_); (case side1 => repeat (first | exact (Kd.S_reads' HO_12.out).2.2 | (with_reducible refine Kd.C_alloc ?_ _) | (with_reducible refine Kd.C_drewN ?_ _) | (with_reducible refine Kd.C_drew ?_))); (case side2 => exact (Kd.S_reads' HO_12.out).2.1); rintro e w55 ⟨rfl, hb⟩; have n0_ := Aside0.mk (Kd.S_below (by (with_reducible repeat (first | apply Kd.S_alloc | apply Kd.S_drewN | apply Kd.S_drew)); exact HO_8.out) hb); have n1_ := Aside0.mk (Kd.S_below (by (with_reducible repeat (first | apply Kd.S_alloc | apply Kd.S_drewN | apply Kd.S_drew)); exact HO_12.out) hb); have n2_ := Aside0.mk (below_step (by repeat (first | (with_reducible first | exact HB.out | apply below_alloc | apply pw_below_drewN | apply below_drew1) | exact HB.out)) hb); clear HO_8; clear HO_12; clear HB; have HO_8 := n0_; have HO_12 := n1_; have HB := n2_; clear n0_ n1_ n2_; (try clear hb); (try clear hb2); (try clear hk); (try clear hi)))
           repeat (go_quiet (first | (go_at_call 30; (with_reducible refine (league_Uneven.calls (wrap64 (2 + (Int.tmod (wrap64 (a0)) 5))) _ _ x12_2 t331 t332 _ ?side1 ?side2 A47.out).mono ?_); (case side1 => repeat (first | exact (Kd.S_reads' HO_12.out).2.2 | (with_reducible refine Kd.C_alloc ?_ _) | (with_reducible refine Kd.C_drewN ?_ _) | (with_reducible refine Kd.C_drew ?_))); (case side2 => exact (Kd.S_reads' HO_12.out).2.1); rintro e w55 ⟨rfl, hb⟩; have n0_ := Aside0.mk (Kd.S_below (by (with_reducible repeat (first | apply Kd.S_alloc | apply Kd.S_drewN | apply Kd.S_drew)); exact HO_8.out) hb); have n1_ := Aside0.mk (Kd.S_below (by (with_reducible repeat (first | apply Kd.S_alloc | apply Kd.S_drewN | apply Kd.S_drew)); exact HO_12.out) hb); have n2_ := Aside0.mk (below_step (by repeat (first | (with_reducible first | exact HB.out | apply below_alloc | apply pw_below_drewN | apply below_drew1) | exact HB.out)) hb); clear HO_8; clear HO_12; clear HB; have HO_8 := n0_; have HO_12 := n1_; have HB := n2_; clear n0_ n1_ n2_; (try clear hb); (try clear hb2); (try clear hk); (try clear hi))); try go_wp2_with (first | (go_at_call 30; (with_reducible refine (league_Uneven.calls (wrap64 (2 + (Int.tmod (wrap64 (a0)) 5))) _ _ x12_2 t331 t332 _ ?side1 ?side2 A47.out).mono ?_); (case side1 => repeat (first | exact (Kd.S_reads' HO_12.out).2.2 | (with_reducible refine Kd.C_alloc ?_ _) | (with_reducible refine Kd.C_drewN ?_ _) | (with_reducible refine Kd.C_drew ?_))); (case side2 => exact (Kd.S_reads' HO_12.out).2.1); rintro e w55 ⟨rfl, hb⟩; have n0_ := Aside0.mk (Kd.S_below (by (with_reducible repeat (first | apply Kd.S_alloc | apply Kd.S_drewN | apply Kd.S_drew)); exact HO_8.out) hb); have n1_ := Aside0.mk (Kd.S_below (by (with_reducible repeat (first | apply Kd.S_alloc | apply Kd.S_drewN | apply Kd.S_drew)); exact HO_12.out) hb); have n2_ := Aside0.mk (below_step (by repeat (first | (with_reducible first | exact HB.out | apply below_alloc | apply pw_below_drewN | apply below_drew1) | exact HB.out)) hb); clear HO_8; clear HO_12; clear HB; have HO_8 := n0_; have HO_12 := n1_; have HB := n2_; clear n0_ n1_ n2_; (try clear hb); (try clear hb2); (try clear hk); (try clear hi))))
           go_ret
           exact ⟨by first | rfl | (simp [errW_none, errW_some] <;> rfl) | (simp [*, errW_none, errW_some] <;> rfl), by repeat (first | (with_reducible first | exact HB.out | apply below_alloc | apply pw_below_drewN | apply below_drew1) | exact HB.out)⟩
         ·
          rw [if_neg c48] at H
          have c48b0 : (t332 == 0) = false := beq_eq_false_iff_ne.mpr c48
          have c48b1 : (t332 != 0) = true := bne_iff_ne.mpr c48
          obtain rfl := Option.some.inj H
          obtain ⟨Ao56, co56, eo56⟩ := Kd.S_slice HO_12.out
          subst eo56
          go_wp2_with (first | (go_at_call 30; (with_reducible refine (league_Uneven.calls (wrap64 (2 + (Int.tmod (wrap64 (a0)) 5))) _ _ x12_2 t331 t332 _ ?side1 ?side2 A47.out).mono ?_); (case side1 => repeat (first | exact (Kd.S_reads' HO_12.out).2.2 | (with_reducible refine Kd.C_alloc ?_ _) | (with_reducible refine Kd.C_drewN ?_ _) | (with_reducible refine Kd.C_drew ?_))); (case side2 => exact (Kd.S_reads' HO_12.out).2.1); rintro e w57 ⟨rfl, hb⟩; have n0_ := Aside0.mk (Kd.S_below (by (with_reducible repeat (first | apply Kd.S_alloc | apply Kd.S_drewN | apply Kd.S_drew)); exact HO_8.out) hb); have n1_ := Aside0.mk (Kd.S_below (by (with_reducible repeat (first | apply Kd.S_alloc | apply Kd.S_drewN | apply Kd.S_drew)); exact HO_12.out) hb); have n2_ := Aside0.mk (below_step (by repeat (first | (with_reducible first | exact HB.out | apply below_alloc | apply pw_below_drewN | apply below_drew1) | exact HB.out)) hb); clear HO_8; clear HO_12; clear HB; have HO_8 := n0_; have HO_12 := n1_; have HB := n2_; clear n0_ n1_ n2_; (try clear hb); (try clear hb2); (try clear hk); (try clear hi)))
          repeat (go_quiet (first | (go_at_call 30; (with_reducible refine (league_Uneven.calls (wrap64 (2 + (Int.tmod (wrap64 (a0)) 5))) _ _ x12_2 t331 t332 _ ?side1 ?side2 A47.out).mono ?_); (case side1 => repeat (first | exact (Kd.S_reads' HO_12.out).2.2 | (with_reducible refine Kd.C_alloc ?_ _) | (with_reducible refine Kd.C_drewN ?_ _) | (with_reducible refine Kd.C_drew ?_))); (case side2 => exact (Kd.S_reads' HO_12.out).2.1); rintro e w57 ⟨rfl, hb⟩; have n0_ := Aside0.mk (Kd.S_below (by (with_reducible repeat (first | apply Kd.S_alloc | apply Kd.S_drewN | apply Kd.S_drew)); exact HO_8.out) hb); have n1_ := Aside0.mk (Kd.S_below (by (with_reducible repeat (first | apply Kd.S_alloc | apply Kd.S_drewN | apply Kd.S_drew)); exact HO_12.out) hb); have n2_ := Aside0.mk (below_step (by repeat (first | (with_reducible first | exact HB.out | apply below_alloc | apply pw_below_drewN | apply below_drew1) | exact HB.out)) hb); clear HO_8; clear HO_12; clear HB; have HO_8 := n0_; have HO_12 := n1_; have HB := n2_; clear n0_ n1_ n2_; (try clear hb); (try clear hb2); (try clear hk); (try clear hi))); try go_wp2_with (first | (go_at_call 30; (with_reducible refine (league_Uneven.calls (wrap64 (2 + (Int.tmod (wrap64 (a0)) 5))) _ _ x12_2 t331 t332 _ ?side1 ?side2 A47.out).mono ?_); (case side1 => repeat (first | exact (Kd.S_reads' HO_12.out).2.2 | (with_reducible refine Kd.C_alloc ?_ _) | (with_reducible refine Kd.C_drewN ?_ _) | (with_reducible refine Kd.C_drew ?_))); (case side2 => exact (Kd.S_reads' HO_12.out).2.1); rintro e w57 ⟨rfl, hb⟩; have n0_ := Aside0.mk (Kd.S_below (by (with_reducible repeat (first | apply Kd.S_alloc | apply Kd.S_drewN | apply Kd.S_drew)); exact HO_8.out) hb); have n1_ := Aside0.mk (Kd.S_below (by (with_reducible repeat (first | apply Kd.S_alloc | apply Kd.S_drewN | apply Kd.S_drew)); exact HO_12.out) hb); have n2_ := Aside0.mk (below_step (by repeat (first | (with_reducible first | exact HB.out | apply below_alloc | apply pw_below_drewN | apply below_drew1) | exact HB.out)) hb); clear HO_8; clear HO_12; clear HB; have HO_8 := n0_; have HO_12 := n1_; have HB := n2_; clear n0_ n1_ n2_; (try clear hb); (try clear hb2); (try clear hk); (try clear hi))))
          go_ret
          exact ⟨by first | rfl | (simp [errW_none, errW_some] <;> rfl) | (simp [*, errW_none, errW_some] <;> rfl), by repeat (first | (with_reducible first | exact HB.out | apply below_alloc | apply pw_below_drewN | apply below_drew1) | exact HB.out)⟩
 ·
  replace c5 := Bool.eq_false_iff.mpr c5
  subst c5
  have H1 : ((kingpinlaw08_awake.f).bind fun t317 => (some t317)) = some r := by rw [if_neg (show ¬ (false = true) by decide)] at H; exact H
  clear H
  have H := H1
  clear H1
  replace H := Option.bind_eq_some_iff.mp H
  obtain ⟨t317, A580, H⟩ := H
  replace H : (some t317) = some r := H
  have A58 := Aside0.mk A580
  clear A580
  obtain rfl := Option.some.inj H
  go_enter Try.func5, Try.ntmps5
  go_wp2_with (first | (go_at_call 28; (with_reducible refine (kingpinlaw08_Short.calls k _ _ l1 false _ ?side1 ?side2 A4.out).mono ?_); (case side1 => repeat (first | exact HR1.out | (with_reducible refine Kd.C_alloc ?_ _) | (with_reducible refine Kd.C_drewN ?_ _) | (with_reducible refine Kd.C_drew ?_))); (case side2 => exact HC1.out); rintro e w' ⟨rfl, ⟨nd, rfl⟩⟩; (try first | exact ⟨rfl, _, World.drewN_drewN _ _ _⟩ | exact ⟨rfl, _, Eq.trans (World.drewN_drewN _ _ _) (congrArg (World.drewN _) (Nat.add_assoc _ _ _))⟩)) | (go_at_call 16; (with_reducible refine (kingpinlaw08_awake.calls  t317 _ A58.out).mono ?_); rintro e w59 ⟨rfl, hb⟩; have n0_ := Aside0.mk (below_step (by repeat (first | (with_reducible first | exact HB.out | apply below_alloc | apply pw_below_drewN | apply below_drew1) | exact HB.out)) hb); clear HB; have HB := n0_; clear n0_; (try clear hb); (try clear hb2); (try clear hk); (try clear hi)))
  repeat (go_quiet (first | (go_at_call 28; (with_reducible refine (kingpinlaw08_Short.calls k _ _ l1 false _ ?side1 ?side2 A4.out).mono ?_); (case side1 => repeat (first | exact HR1.out | (with_reducible refine Kd.C_alloc ?_ _) | (with_reducible refine Kd.C_drewN ?_ _) | (with_reducible refine Kd.C_drew ?_))); (case side2 => exact HC1.out); rintro e w' ⟨rfl, ⟨nd, rfl⟩⟩; (try first | exact ⟨rfl, _, World.drewN_drewN _ _ _⟩ | exact ⟨rfl, _, Eq.trans (World.drewN_drewN _ _ _) (congrArg (World.drewN _) (Nat.add_assoc _ _ _))⟩)) | (go_at_call 16; (with_reducible refine (kingpinlaw08_awake.calls  t317 _ A58.out).mono ?_); rintro e w59 ⟨rfl, hb⟩; have n0_ := Aside0.mk (below_step (by repeat (first | (with_reducible first | exact HB.out | apply below_alloc | apply pw_below_drewN | apply below_drew1) | exact HB.out)) hb); clear HB; have HB := n0_; clear n0_; (try clear hb); (try clear hb2); (try clear hk); (try clear hi))); try go_wp2_with (first | (go_at_call 28; (with_reducible refine (kingpinlaw08_Short.calls k _ _ l1 false _ ?side1 ?side2 A4.out).mono ?_); (case side1 => repeat (first | exact HR1.out | (with_reducible refine Kd.C_alloc ?_ _) | (with_reducible refine Kd.C_drewN ?_ _) | (with_reducible refine Kd.C_drew ?_))); (case side2 => exact HC1.out); rintro e w' ⟨rfl, ⟨nd, rfl⟩⟩; (try first | exact ⟨rfl, _, World.drewN_drewN _ _ _⟩ | exact ⟨rfl, _, Eq.trans (World.drewN_drewN _ _ _) (congrArg (World.drewN _) (Nat.add_assoc _ _ _))⟩)) | (go_at_call 16; (with_reducible refine (kingpinlaw08_awake.calls  t317 _ A58.out).mono ?_); rintro e w59 ⟨rfl, hb⟩; have n0_ := Aside0.mk (below_step (by repeat (first | (with_reducible first | exact HB.out | apply below_alloc | apply pw_below_drewN | apply below_drew1) | exact HB.out)) hb); clear HB; have HB := n0_; clear n0_; (try clear hb); (try clear hb2); (try clear hk); (try clear hi))))
  go_ret
  exact ⟨by first | rfl | (simp [errW_none, errW_some] <;> rfl) | (simp [*, errW_none, errW_some] <;> rfl), by repeat (first | (with_reducible first | exact HB.out | apply below_alloc | apply pw_below_drewN | apply below_drew1) | exact HB.out)⟩
end Go.Proofs.Ytmnamkcjldaoeaa.PAll
namespace Go.Proofs.Ytmnamkcjldaoeaa.PAll
open Go.RowKit Go.Proofs.YtmnamkcjldaoeaaW.PrintWords Go.Proofs.YtmnamkcjldaoeaaW.PrintLast Go.Proofs.YtmnamkcjldaoeaaW.PrintMore
set_option linter.unusedVariables false
set_option linter.unusedSimpArgs false
set_option maxRecDepth 100000
def trM (n : Int) (h : Int) (y t : Int) (m : S57) : S57 := ⟨mn (Int.tmod (wrap64 (m.f0 + y)) n) (Int.tmod (wrap64 (m.f1 + y)) n), mx (Int.tmod (wrap64 (m.f0 + y)) n) (Int.tmod (wrap64 (m.f1 + y)) n), Int.tmod (wrap64 (m.f2 + t)) h⟩
def trS (n h y : Int) : List (List S57) → List Int → List (List S57)
 | [], _ => []
 | r :: s, ts => r.map (trM n h y (ts.headD 0)) :: trS n h y s ts.tail
def turnsL (h : Nat) : Nat → List (List Int)
 | 0 => [[]]
 | k + 1 => (List.range h).flatMap fun (t : Nat) => (turnsL h k).map fun ts => (t : Int) :: ts
theorem mem_turns (h : Nat) : ∀ (ts : List Int), (∀ t ∈ ts, 0 ≤ t ∧ t < h) → ts ∈ turnsL h ts.length
 | [], _ => by simp [turnsL]
 | t :: ts, hh => by
  have ih := mem_turns h ts (fun x hx => hh x (List.mem_cons_of_mem _ hx))
  have ht := hh t List.mem_cons_self
  rw [List.length_cons]
  refine List.mem_flatMap.2 ⟨t.toNat, List.mem_range.2 (by omega), List.mem_map.2 ⟨ts, ih, ?_⟩⟩
  congr 1
  omega
def okAt (n : Int) (h : Nat) (b : List (List S57)) (y t : Nat) : Bool := (turnsL h (b.length - 1)).all fun ts => (rightF n h (trS n h y b ((t : Int) :: ts))).2
def sched2 : List (List S57) := [[⟨0, 1, 0⟩]]
theorem build2 : league_Build.f 2 = some (sched2, 0) := by kernel_rfl
theorem even2 : league_Uneven.f 2 sched2 = some (0, 0) := by kernel_rfl
theorem ok2_0_0 : okAt 2 1 sched2 0 0 = true := by kernel_rfl
theorem ok2_1_0 : okAt 2 1 sched2 1 0 = true := by kernel_rfl
theorem okAll2 (y t : Nat) (hy : y < 2) (ht : t < 1) : okAt 2 1 sched2 y t = true := by
 have hy2 : y = 0 ∨ y = 1 := by omega
 have ht2 : t = 0 := by omega
 rcases hy2 with rfl | rfl <;> obtain rfl := ht2
 ·
  exact ok2_0_0
 ·
  exact ok2_1_0
def sched3 : List (List S57) := [[⟨1, 2, 0⟩], [⟨0, 2, 0⟩], [⟨0, 1, 0⟩]]
theorem build3 : league_Build.f 3 = some (sched3, 0) := by kernel_rfl
theorem even3 : league_Uneven.f 3 sched3 = some (0, 0) := by kernel_rfl
theorem ok3_0_0 : okAt 3 1 sched3 0 0 = true := by kernel_rfl
theorem ok3_1_0 : okAt 3 1 sched3 1 0 = true := by kernel_rfl
theorem ok3_2_0 : okAt 3 1 sched3 2 0 = true := by kernel_rfl
theorem okAll3 (y t : Nat) (hy : y < 3) (ht : t < 1) : okAt 3 1 sched3 y t = true := by
 have hy2 : y = 0 ∨ y = 1 ∨ y = 2 := by omega
 have ht2 : t = 0 := by omega
 rcases hy2 with rfl | rfl | rfl <;> obtain rfl := ht2
 ·
  exact ok3_0_0
 ·
  exact ok3_1_0
 ·
  exact ok3_2_0
def sched4 : List (List S57) := [[⟨0, 3, 0⟩, ⟨1, 2, 1⟩], [⟨1, 3, 0⟩, ⟨0, 2, 1⟩], [⟨2, 3, 0⟩, ⟨0, 1, 1⟩]]
theorem build4 : league_Build.f 4 = some (sched4, 0) := by kernel_rfl
theorem even4 : league_Uneven.f 4 sched4 = some (3, 0) := by kernel_rfl
theorem ok4_0_0 : okAt 4 2 sched4 0 0 = true := by kernel_rfl
theorem ok4_0_1 : okAt 4 2 sched4 0 1 = true := by kernel_rfl
theorem ok4_1_0 : okAt 4 2 sched4 1 0 = true := by kernel_rfl
theorem ok4_1_1 : okAt 4 2 sched4 1 1 = true := by kernel_rfl
theorem ok4_2_0 : okAt 4 2 sched4 2 0 = true := by kernel_rfl
theorem ok4_2_1 : okAt 4 2 sched4 2 1 = true := by kernel_rfl
theorem ok4_3_0 : okAt 4 2 sched4 3 0 = true := by kernel_rfl
theorem ok4_3_1 : okAt 4 2 sched4 3 1 = true := by kernel_rfl
theorem okAll4 (y t : Nat) (hy : y < 4) (ht : t < 2) : okAt 4 2 sched4 y t = true := by
 have hy2 : y = 0 ∨ y = 1 ∨ y = 2 ∨ y = 3 := by omega
 have ht2 : t = 0 ∨ t = 1 := by omega
 rcases hy2 with rfl | rfl | rfl | rfl <;> rcases ht2 with rfl | rfl
 ·
  exact ok4_0_0
 ·
  exact ok4_0_1
 ·
  exact ok4_1_0
 ·
  exact ok4_1_1
 ·
  exact ok4_2_0
 ·
  exact ok4_2_1
 ·
  exact ok4_3_0
 ·
  exact ok4_3_1
def sched5 : List (List S57) := [[⟨1, 4, 0⟩, ⟨2, 3, 1⟩], [⟨0, 2, 0⟩, ⟨3, 4, 1⟩], [⟨1, 3, 0⟩, ⟨0, 4, 1⟩], [⟨2, 4, 0⟩, ⟨0, 1, 1⟩], [⟨0, 3, 0⟩, ⟨1, 2, 1⟩]]
theorem build5 : league_Build.f 5 = some (sched5, 0) := by kernel_rfl
theorem even5 : league_Uneven.f 5 sched5 = some (0, 0) := by kernel_rfl
theorem ok5_0_0 : okAt 5 2 sched5 0 0 = true := by kernel_rfl
theorem ok5_0_1 : okAt 5 2 sched5 0 1 = true := by kernel_rfl
theorem ok5_1_0 : okAt 5 2 sched5 1 0 = true := by kernel_rfl
theorem ok5_1_1 : okAt 5 2 sched5 1 1 = true := by kernel_rfl
theorem ok5_2_0 : okAt 5 2 sched5 2 0 = true := by kernel_rfl
theorem ok5_2_1 : okAt 5 2 sched5 2 1 = true := by kernel_rfl
theorem ok5_3_0 : okAt 5 2 sched5 3 0 = true := by kernel_rfl
theorem ok5_3_1 : okAt 5 2 sched5 3 1 = true := by kernel_rfl
theorem ok5_4_0 : okAt 5 2 sched5 4 0 = true := by kernel_rfl
theorem ok5_4_1 : okAt 5 2 sched5 4 1 = true := by kernel_rfl
theorem okAll5 (y t : Nat) (hy : y < 5) (ht : t < 2) : okAt 5 2 sched5 y t = true := by
 have hy2 : y = 0 ∨ y = 1 ∨ y = 2 ∨ y = 3 ∨ y = 4 := by omega
 have ht2 : t = 0 ∨ t = 1 := by omega
 rcases hy2 with rfl | rfl | rfl | rfl | rfl <;> rcases ht2 with rfl | rfl
 ·
  exact ok5_0_0
 ·
  exact ok5_0_1
 ·
  exact ok5_1_0
 ·
  exact ok5_1_1
 ·
  exact ok5_2_0
 ·
  exact ok5_2_1
 ·
  exact ok5_3_0
 ·
  exact ok5_3_1
 ·
  exact ok5_4_0
 ·
  exact ok5_4_1
def sched6 : List (List S57) := [[⟨0, 5, 0⟩, ⟨1, 4, 1⟩, ⟨2, 3, 2⟩], [⟨1, 5, 0⟩, ⟨0, 2, 1⟩, ⟨3, 4, 2⟩], [⟨2, 5, 2⟩, ⟨1, 3, 0⟩, ⟨0, 4, 1⟩], [⟨3, 5, 1⟩, ⟨2, 4, 0⟩, ⟨0, 1, 2⟩], [⟨4, 5, 2⟩, ⟨0, 3, 0⟩, ⟨1, 2, 1⟩]]
theorem build6 : league_Build.f 6 = some (sched6, 0) := by kernel_rfl
theorem even6 : league_Uneven.f 6 sched6 = some (1, 0) := by kernel_rfl
theorem ok6_0_0 : okAt 6 3 sched6 0 0 = true := by kernel_rfl
theorem ok6_0_1 : okAt 6 3 sched6 0 1 = true := by kernel_rfl
theorem ok6_0_2 : okAt 6 3 sched6 0 2 = true := by kernel_rfl
theorem ok6_1_0 : okAt 6 3 sched6 1 0 = true := by kernel_rfl
theorem ok6_1_1 : okAt 6 3 sched6 1 1 = true := by kernel_rfl
theorem ok6_1_2 : okAt 6 3 sched6 1 2 = true := by kernel_rfl
theorem ok6_2_0 : okAt 6 3 sched6 2 0 = true := by kernel_rfl
theorem ok6_2_1 : okAt 6 3 sched6 2 1 = true := by kernel_rfl
theorem ok6_2_2 : okAt 6 3 sched6 2 2 = true := by kernel_rfl
theorem ok6_3_0 : okAt 6 3 sched6 3 0 = true := by kernel_rfl
theorem ok6_3_1 : okAt 6 3 sched6 3 1 = true := by kernel_rfl
theorem ok6_3_2 : okAt 6 3 sched6 3 2 = true := by kernel_rfl
theorem ok6_4_0 : okAt 6 3 sched6 4 0 = true := by kernel_rfl
theorem ok6_4_1 : okAt 6 3 sched6 4 1 = true := by kernel_rfl
theorem ok6_4_2 : okAt 6 3 sched6 4 2 = true := by kernel_rfl
theorem ok6_5_0 : okAt 6 3 sched6 5 0 = true := by kernel_rfl
theorem ok6_5_1 : okAt 6 3 sched6 5 1 = true := by kernel_rfl
theorem ok6_5_2 : okAt 6 3 sched6 5 2 = true := by kernel_rfl
theorem okAll6 (y t : Nat) (hy : y < 6) (ht : t < 3) : okAt 6 3 sched6 y t = true := by
 have hy2 : y = 0 ∨ y = 1 ∨ y = 2 ∨ y = 3 ∨ y = 4 ∨ y = 5 := by omega
 have ht2 : t = 0 ∨ t = 1 ∨ t = 2 := by omega
 rcases hy2 with rfl | rfl | rfl | rfl | rfl | rfl <;> rcases ht2 with rfl | rfl | rfl
 ·
  exact ok6_0_0
 ·
  exact ok6_0_1
 ·
  exact ok6_0_2
 ·
  exact ok6_1_0
 ·
  exact ok6_1_1
 ·
  exact ok6_1_2
 ·
  exact ok6_2_0
 ·
  exact ok6_2_1
 ·
  exact ok6_2_2
 ·
  exact ok6_3_0
 ·
  exact ok6_3_1
 ·
  exact ok6_3_2
 ·
  exact ok6_4_0
 ·
  exact ok6_4_1
 ·
  exact ok6_4_2
 ·
  exact ok6_5_0
 ·
  exact ok6_5_1
 ·
  exact ok6_5_2
structure Evenest (n : Int) (h : Nat) (b : List (List S57)) (u : Int) : Prop where
 build : league_Build.f n = some (b, 0)
 even : league_Uneven.f n b = some (u, 0)
 low : 0 ≤ u ∧ u ≤ 10
 least : ∀ s, (rightF n h s).2 = true → u ≤ unevenTo (rightF n h s).1 h n.toNat
 ok : ∀ (y : Int) (ts : List Int), 0 ≤ y → y < n → ts.length = b.length → (∀ t ∈ ts, 0 ≤ t ∧ t < h) → (rightF n h (trS n h y b ts)).2 = true
 short : b.length ≤ 10 ∧ ∀ r ∈ b, r.length ≤ 10
theorem ok_of {n : Int} {h : Nat} {b : List (List S57)} (hb : 1 ≤ b.length) (N : Nat) (hN : n = N) (hok : ∀ (y t : Nat), y < N → t < h → okAt n h b y t = true) (y : Int) (ts : List Int) (y0 : 0 ≤ y) (y1 : y < n) (hl : ts.length = b.length) (ht : ∀ t ∈ ts, 0 ≤ t ∧ t < h) : (rightF n h (trS n h y b ts)).2 = true := by
 match ts, hl, ht with
 | t :: ts, hl, ht =>
  have ht0 := ht t List.mem_cons_self
  have h1 := hok y.toNat t.toNat (by omega) (by omega)
  unfold okAt at h1
  have h2 := List.all_eq_true.1 h1 ts (by
   have := mem_turns h ts (fun x hx => ht x (List.mem_cons_of_mem _ hx))
   rw [List.length_cons] at hl
   rw [show b.length - 1 = ts.length from by omega]
   exact this)
  rw [show ((y.toNat : Nat) : Int) = y from by omega, show ((t.toNat : Nat) : Int) = t from by omega] at h2
  exact h2
 | [], hl, _ => simp at hl; omega
theorem evenest2 : Evenest 2 1 sched2 0 :=
 ⟨build2, even2, by decide, fun s _ => uneven_nonneg _ _ _, ok_of (by decide) 2 rfl okAll2, by decide⟩
theorem evenest3 : Evenest 3 1 sched3 0 :=
 ⟨build3, even3, by decide, fun s _ => uneven_nonneg _ _ _, ok_of (by decide) 3 rfl okAll3, by decide⟩
theorem evenest4 : Evenest 4 2 sched4 3 :=
 ⟨build4, even4, by decide, fun s hs => four s hs, ok_of (by decide) 4 rfl okAll4, by decide⟩
theorem evenest5 : Evenest 5 2 sched5 0 :=
 ⟨build5, even5, by decide, fun s _ => uneven_nonneg _ _ _, ok_of (by decide) 5 rfl okAll5, by decide⟩
theorem evenest6 : Evenest 6 3 sched6 1 :=
 ⟨build6, even6, by decide, fun s hs => six s hs, ok_of (by decide) 6 rfl okAll6, by decide⟩
theorem evenest (n : Int) (n2 : 2 ≤ n) (n6 : n ≤ 6) : ∃ b u, Evenest n (hallsN n) b u := by
 have : n = 2 ∨ n = 3 ∨ n = 4 ∨ n = 5 ∨ n = 6 := by omega
 rcases this with rfl | rfl | rfl | rfl | rfl
 ·
  exact ⟨_, _, evenest2⟩
 ·
  exact ⟨_, _, evenest3⟩
 ·
  exact ⟨_, _, evenest4⟩
 ·
  exact ⟨_, _, evenest5⟩
 ·
  exact ⟨_, _, evenest6⟩
theorem uneven_of {n : Int} (n2 : 2 ≤ n) (n6 : n ≤ 6) (s : List (List S57)) : league_Uneven.f n s = some (if (rightF n (hallsN n) s).2 = true then (unevenTo (rightF n (hallsN n) s).1 (hallsN n) n.toNat, 0) else (0, 10)) := by
 unfold league_Uneven.f
 rw [if_pos ⟨n2, n6⟩]
theorem trS_snoc (n h y : Int) (r : List S57) (t : Int) : ∀ (s : List (List S57)) (ts : List Int), s.length = ts.length → trS n h y (s ++ [r]) (ts ++ [t]) = trS n h y s ts ++ [r.map (trM n h y t)]
 | [], [], _ => rfl
 | a :: s, x :: ts, hl => by
  have ih := trS_snoc n h y r t s ts (by simpa using hl)
  show a.map (trM n h y x) :: trS n h y (s ++ [r]) (ts ++ [t]) = _
  rw [ih]
  rfl
theorem rdL7 (gs : List (List S57)) (i : Nat) (h : i < gs.length) : gs.drop i = rd_L7 gs (i : Int) :: gs.drop (i + 1) := by
 rw [List.drop_eq_getElem_cons h]
 congr 1
 unfold rd_L7
 rw [Int.toNat_natCast, List.getD_eq_getElem?_getD, List.getElem?_eq_getElem h, Option.getD_some]
theorem takeL7 (gs : List (List S57)) (i : Nat) (h : i < gs.length) : gs.take (i + 1) = gs.take i ++ [rd_L7 gs (i : Int)] := by
 rw [List.take_succ_eq_append_getElem h]
 congr 2
 unfold rd_L7
 rw [Int.toNat_natCast, List.getD_eq_getElem?_getD, List.getElem?_eq_getElem h, Option.getD_some]
theorem drop57 (l : List S57) (i : Nat) (h : i < l.length) : l.drop i = rd_T57 l (i : Int) :: l.drop (i + 1) := by
 rw [List.drop_eq_getElem_cons h]
 congr 1
 unfold rd_T57
 rw [Int.toNat_natCast, List.getD_eq_getElem?_getD, List.getElem?_eq_getElem h, Option.getD_some]
section
variable (words : List Int) (n : Int) (h : Nat) (hh : wrap64 (Int.tdiv n 2) = h) (h1 : 1 ≤ h) (n2 : 2 ≤ n) (b : List (List S57)) (u : Int) (hb : b.length ≤ 10) (hrow : ∀ r ∈ b, r.length ≤ 10)
include hh h1 n2 hb hrow
theorem even_l1 (acc : List (List S57)) (ha : acc.length ≤ 100) (y : Int) (i : Nat) (hi : i < b.length) (t : Int) (R : Bool) : ∀ (d j : Nat) (cur : List S57), (rd_L7 b (i : Int)).length - j = d → j ≤ (rd_L7 b (i : Int)).length → cur.length = j →
  Ev (fun k => kingpinlaw08_LeagueEvenest.l0 k words n b u (acc ++ [cur ++ ((rd_L7 b (i : Int)).drop j).map (trM n h y t)]) y ((i + 1 : Nat) : Int)) R → Ev (fun k => kingpinlaw08_LeagueEvenest.l1 k words n b u acc y (i : Int) t cur (j : Int)) R := by
 have hrl : (rd_L7 b (i : Int)).length ≤ 10 := hrow _ (List.mem_of_mem_drop (i := i) (by rw [rdL7 b i hi]; exact List.mem_cons_self))
 intro d
 induction d with
 | zero =>
  intro j cur hd hj hc H
  obtain rfl : j = (rd_L7 b (i : Int)).length := by omega
  rw [List.drop_length, List.map_nil, List.append_nil] at H
  refine Ev.step (fun k => ?_) H
  simp only [kingpinlaw08_LeagueEvenest.l1]
  rw [if_pos (by omega), if_pos (by omega), if_neg (by omega), if_pos (by omega), wrapN i (by omega)]
 | succ d ih =>
  intro j cur hd hj hc H
  rw [drop57 _ j (by omega), List.map_cons] at H
  refine Ev.step (fun k => ?_) (ih (j + 1) (cur ++ [trM n h y t (rd_T57 (rd_L7 b (i : Int)) (j : Int))]) (by omega) (by omega) (by simp [hc]) (by simpa using H))
  simp only [kingpinlaw08_LeagueEvenest.l1]
  rw [if_pos (by omega), if_pos (by omega), if_pos (by omega), if_pos (by omega), if_neg (by omega), hh, if_neg (by omega), if_pos (by omega), wrapN j (by omega)]
  rfl
theorem even_l0 (hw : ∀ x ∈ words, 0 ≤ x ∧ x ≤ 65535) (hwl : words.length ≤ 9223372036854775807) (y : Int)
  (hfin : ∀ ts : List Int, ts.length = b.length → (∀ t ∈ ts, 0 ≤ t ∧ t < h) → Ev (fun k => (league_Uneven.f n (trS n h y b ts)).bind fun p => if p.2 = 0 then (if p.1 ≥ u then (kingpinlaw08_awake.f).bind fun t => some t else some false) else some false) true) :
  ∀ (d i : Nat) (ts : List Int), b.length - i = d → i ≤ b.length → ts.length = i → (∀ t ∈ ts, 0 ≤ t ∧ t < h) → Ev (fun k => kingpinlaw08_LeagueEvenest.l0 k words n b u (trS n h y (b.take i) ts) y (i : Int)) true := by
 intro d
 induction d with
 | zero =>
  intro i ts hd hi hl ht
  obtain rfl : i = b.length := by omega
  rw [List.take_length]
  refine Ev.step (fun k => ?_) (hfin ts hl ht)
  simp only [kingpinlaw08_LeagueEvenest.l0]
  rw [if_neg (by omega)]
 | succ d ih =>
  intro i ts hd hi hl ht
  obtain ⟨r, hr, r0, r1⟩ := word_ok words hw hwl (i + 1)
  have t0 := Int.tmod_nonneg (a := r) (h : Int) r0
  have t1 := Int.tmod_lt_of_pos r (show (0 : Int) < (h : Int) by omega)
  have hlen : (trS n h y (b.take i) ts).length ≤ 100 := by
   have : ∀ (s : List (List S57)) (ts : List Int), (trS n h y s ts).length = s.length := by
    intro s
    induction s with
    | nil => exact fun _ => rfl
    | cons a s ih => exact fun ts => congrArg (· + 1) (ih ts.tail)
   rw [this, List.length_take]
   omega
  refine Ev.step (f := fun k => kingpinlaw08_LeagueEvenest.l1 k words n b u (trS n h y (b.take i) ts) y (i : Int) (Int.tmod r (h : Int)) [] ((0 : Nat) : Int)) (fun k => ?_) ?_
  ·
   simp only [kingpinlaw08_LeagueEvenest.l0]
   rw [if_pos (by omega), wrapN i (by omega), hr, Option.bind_some, hh, if_neg (by omega)]
   rfl
  ·
   refine even_l1 words n h hh h1 n2 b u hb hrow _ hlen y i (by omega) _ _ _ 0 [] rfl (Nat.zero_le _) rfl ?_
   rw [List.drop_zero, List.nil_append, ← trS_snoc n h y _ _ (b.take i) ts (by rw [List.length_take]; omega), ← takeL7 b i (by omega)]
   refine ih (i + 1) (ts ++ [Int.tmod r (h : Int)]) (by omega) (by omega) (by simp [hl]) ?_
   intro t htm
   rcases List.mem_append.1 htm with htm | htm
   ·
    exact ht t htm
   ·
    rw [List.mem_singleton] at htm
    subst htm
    exact ⟨t0, t1⟩
end
def toM (m : S114) : S57 := ⟨m.f0, m.f1, m.f2⟩
theorem rdL9 (gs : List (List S114)) (i : Nat) (h : i < gs.length) : gs.drop i = rd_L9 gs (i : Int) :: gs.drop (i + 1) := by
 rw [List.drop_eq_getElem_cons h]
 congr 1
 unfold rd_L9
 rw [Int.toNat_natCast, List.getD_eq_getElem?_getD, List.getElem?_eq_getElem h, Option.getD_some]
theorem drop114 (l : List S114) (i : Nat) (h : i < l.length) : l.drop i = rd_T114 l (i : Int) :: l.drop (i + 1) := by
 rw [List.drop_eq_getElem_cons h]
 congr 1
 unfold rd_T114
 rw [Int.toNat_natCast, List.getD_eq_getElem?_getD, List.getElem?_eq_getElem h, Option.getD_some]
theorem mem_of_drop {α : Type} {l : List α} {i : Nat} {x : α} {ys : List α} (h : l.drop i = x :: ys) : x ∈ l := List.mem_of_mem_drop (i := i) (by rw [h]; exact List.mem_cons_self)
theorem Schedule_ev (s : List (List S114)) (hs : s.length ≤ 8 ∧ ∀ r ∈ s, r.length ≤ 8) : Ev (fun k => kingpinlaw08_Schedule.f k s) (s.map (List.map toM)) := by
 have l1 : ∀ (i : Nat) (hi : i < s.length) (acc : List (List S57)) (ha : acc.length ≤ 100) (R : List (List S57)) (d j : Nat) (cur : List S57), (rd_L9 s (i : Int)).length - j = d → j ≤ (rd_L9 s (i : Int)).length → cur.length = j →
   Ev (fun k => kingpinlaw08_Schedule.l0 k s (acc ++ [cur ++ ((rd_L9 s (i : Int)).drop j).map toM]) ((i + 1 : Nat) : Int)) R → Ev (fun k => kingpinlaw08_Schedule.l1 k s acc (i : Int) cur (j : Int)) R := by
  intro i hi acc ha R d
  have hrl : (rd_L9 s (i : Int)).length ≤ 8 := hs.2 _ (mem_of_drop (rdL9 s i hi))
  induction d with
  | zero =>
   intro j cur hd hj hc H
   obtain rfl : j = (rd_L9 s (i : Int)).length := by omega
   rw [List.drop_length, List.map_nil, List.append_nil] at H
   refine Ev.step (fun k => ?_) H
   simp only [kingpinlaw08_Schedule.l1]
   rw [if_pos (by omega), if_pos (by omega), if_neg (by omega), if_pos (by omega), wrapN i (by omega)]
  | succ d ih =>
   intro j cur hd hj hc H
   rw [drop114 _ j (by omega), List.map_cons] at H
   refine Ev.step (fun k => ?_) (ih (j + 1) (cur ++ [toM (rd_T114 (rd_L9 s (i : Int)) (j : Int))]) (by omega) (by omega) (by simp [hc]) (by simpa using H))
   simp only [kingpinlaw08_Schedule.l1]
   rw [if_pos (by omega), if_pos (by omega), if_pos (by omega), if_pos (by omega), if_pos (by omega), wrapN j (by omega)]
   rfl
 have main : ∀ (d i : Nat) (acc : List (List S57)), s.length - i = d → i ≤ s.length → acc.length = i → Ev (fun k => kingpinlaw08_Schedule.l0 k s acc (i : Int)) (acc ++ (s.drop i).map (List.map toM)) := by
  intro d
  induction d with
  | zero =>
   intro i acc hd hi ha
   obtain rfl : i = s.length := by omega
   refine Ev.step (f := fun _ => some acc) (fun k => ?_) ?_
   ·
    simp only [kingpinlaw08_Schedule.l0]
    rw [if_neg (by omega)]
   ·
    simpa using Ev.now acc
  | succ d ih =>
   intro i acc hd hi ha
   rw [rdL9 s i (by omega), List.map_cons]
   refine Ev.step (f := fun k => kingpinlaw08_Schedule.l1 k s acc (i : Int) [] ((0 : Nat) : Int)) (fun k => ?_) ?_
   ·
    simp only [kingpinlaw08_Schedule.l0]
    rw [if_pos (by omega)]
    rfl
   ·
    refine l1 i (by omega) acc (by omega) _ _ 0 [] rfl (Nat.zero_le _) rfl ?_
    rw [List.drop_zero, List.nil_append]
    have := ih (i + 1) (acc ++ [(rd_L9 s (i : Int)).map toM]) (by omega) (by omega) (by simp [ha])
    simpa using this
 have := main s.length 0 [] rfl (Nat.zero_le _) rfl
 rw [List.nil_append, List.drop_zero] at this
 exact this
theorem Short_ev (s : List (List S114)) (hl : s.length ≤ 9223372036854775807) : ∃ r, Ev (fun k => kingpinlaw08_Short.f k s) r ∧ (r = true → s.length ≤ 8 ∧ ∀ x ∈ s, x.length ≤ 8) := by
 have main : ∀ (d i : Nat), 9 - i = d → i ≤ 9 → i ≤ s.length → (∀ x ∈ s.take i, x.length ≤ 8) → ∃ r, Ev (fun k => kingpinlaw08_Short.l0 k s (i : Int)) r ∧ (r = true → s.length ≤ 8 ∧ ∀ x ∈ s, x.length ≤ 8) := by
  intro d
  induction d with
  | zero =>
   intro i hd h9 hi hx
   obtain rfl : i = 9 := by omega
   refine ⟨decide ((s.length : Int) ≤ 8), ?_, fun h => ?_⟩
   ·
    by_cases hlt : ((9 : Nat) : Int) < (s.length : Int)
    ·
     refine Ev.step (f := fun k => kingpinlaw08_Short.j1 k s ((9 : Nat) : Int) false) (fun k => ?_) (Ev.step (f := fun _ => some (decide ((s.length : Int) ≤ 8))) (fun k => rfl) (Ev.now _))
     simp only [kingpinlaw08_Short.l0]
     rw [if_pos hlt]
     rfl
    ·
     refine Ev.step (f := fun k => kingpinlaw08_Short.j1 k s ((9 : Nat) : Int) false) (fun k => ?_) (Ev.step (f := fun _ => some (decide ((s.length : Int) ≤ 8))) (fun k => rfl) (Ev.now _))
     simp only [kingpinlaw08_Short.l0]
     rw [if_neg hlt]
   ·
    have := of_decide_eq_true h
    omega
  | succ d ih =>
   intro i hd h9 hi hx
   by_cases hlt : i < s.length
   ·
    by_cases h8 : (rd_L9 s (i : Int)).length ≤ 8
    ·
     have hm : ∀ x ∈ s.take (i + 1), x.length ≤ 8 := by
      intro x hxm
      rw [List.take_succ_eq_append_getElem hlt] at hxm
      rcases List.mem_append.1 hxm with hxm | hxm
      ·
       exact hx x hxm
      ·
       rw [List.mem_singleton] at hxm
       subst hxm
       unfold rd_L9 at h8
       rw [Int.toNat_natCast, List.getD_eq_getElem?_getD, List.getElem?_eq_getElem hlt, Option.getD_some] at h8
       exact h8
     obtain ⟨r, hr1, hr2⟩ := ih (i + 1) (by omega) (by omega) (by omega) hm
     refine ⟨r, ?_, hr2⟩
     refine Ev.step (f := fun k => kingpinlaw08_Short.j1 k s (i : Int) true) (fun k => ?_) (Ev.step (fun k => ?_) hr1)
     ·
      simp only [kingpinlaw08_Short.l0]
      rw [if_pos (by omega), decide_eq_true (by omega)]
     ·
      simp only [kingpinlaw08_Short.j1]
      rw [if_pos trivial, if_pos (by omega), if_pos (by omega), if_neg (by omega), wrapN i (by omega)]
    ·
     refine ⟨false, ?_, fun h => by cases h⟩
     refine Ev.step (f := fun k => kingpinlaw08_Short.j1 k s (i : Int) true) (fun k => ?_) (Ev.step (f := fun _ => some false) (fun k => ?_) (Ev.now _))
     ·
      simp only [kingpinlaw08_Short.l0]
      rw [if_pos (by omega), decide_eq_true (by omega)]
     ·
      simp only [kingpinlaw08_Short.j1]
      rw [if_pos trivial, if_pos (by omega), if_pos (by omega), if_pos (by omega)]
   ·
    obtain rfl : i = s.length := by omega
    refine ⟨decide ((s.length : Int) ≤ 8), ?_, fun h => ?_⟩
    ·
     refine Ev.step (f := fun k => kingpinlaw08_Short.j1 k s (s.length : Int) false) (fun k => ?_) (Ev.step (f := fun _ => some (decide ((s.length : Int) ≤ 8))) (fun k => rfl) (Ev.now _))
     simp only [kingpinlaw08_Short.l0]
     rw [if_neg (by omega)]
    ·
     have := of_decide_eq_true h
     rw [List.take_length] at hx
     exact ⟨by omega, hx⟩
 exact main 9 0 rfl (by decide) (Nat.zero_le _) (by simp)
theorem Evenest_ev (a : Int) (ha : 0 ≤ a ∧ a ≤ 255) (s : List (List S114)) (hsl : s.length ≤ 9223372036854775807) (words : List Int) (hw : ∀ x ∈ words, 0 ≤ x ∧ x ≤ 65535) (hwl : words.length ≤ 9223372036854775807) : Ev (fun k => kingpinlaw08_LeagueEvenest.f k a s words) true := by
 have hawk : Ev (fun k => (kingpinlaw08_awake.f).bind fun t => some t) true := Ev.bind awake_ev (Ev.now _)
 unfold kingpinlaw08_LeagueEvenest.f
 obtain ⟨sh, hs1, hs2⟩ := Short_ev s hsl
 refine Ev.bind hs1 ?_
 cases sh with
 | false => exact hawk
 | true =>
  have hs3 := hs2 rfl
  simp only [if_true]
  have m0 := Int.tmod_nonneg (a := a) 5 ha.1
  have m1 := Int.tmod_lt_of_pos a (show (0 : Int) < 5 by decide)
  have hn : wrap64 (2 + Int.tmod (wrap64 a) 5) = 2 + Int.tmod a 5 := by
   rw [IntWalk.wrap64_in a ⟨by omega, by omega⟩, IntWalk.wrap64_in _ ⟨by omega, by omega⟩]
  rw [hn]
  obtain ⟨n, hnn⟩ : ∃ n, 2 + Int.tmod a 5 = n := ⟨_, rfl⟩
  rw [hnn]
  have n2 : 2 ≤ n := by omega
  have n6 : n ≤ 6 := by omega
  obtain ⟨b, u, E⟩ := evenest n n2 n6
  obtain ⟨hh, h1, h3⟩ := halls_eq n n2 n6
  have hu1 : wrap64 (u - 1) = u - 1 := by
   have := E.low
   exact IntWalk.wrap64_in _ ⟨by omega, by omega⟩
  have hp : ∀ x v, league_ProveSchedule.f n x v = some (decide ((if (rightF n (hallsN n) x).2 = true then (unevenTo (rightF n (hallsN n) x).1 (hallsN n) n.toNat, (0 : Int)) else (0, 10)).2 = 0) && decide ((if (rightF n (hallsN n) x).2 = true then (unevenTo (rightF n (hallsN n) x).1 (hallsN n) n.toNat, (0 : Int)) else (0, 10)).1 ≤ v)) := by
   intro x v
   unfold league_ProveSchedule.f
   rw [uneven_of n2 n6, Option.bind_some]
   split <;> simp
  have hb := E.even
  rw [uneven_of n2 n6] at hb
  have hb2 := Option.some.inj hb
  simp only [E.build, Option.bind_some, E.even]
  rw [hp, hp, hb2, hu1]
  simp only [Option.bind_some, decide_true, Bool.true_and, Int.le_refl, if_true, decide_eq_true_eq, show ¬ (u ≤ u - 1) from by omega, if_false]
  refine Ev.bind (Schedule_ev s hs3) ?_
  rw [hp]
  obtain ⟨x, hx⟩ : ∃ x, s.map (List.map toM) = x := ⟨_, rfl⟩
  have hfalse : (decide ((if (rightF n (hallsN n) x).2 = true then (unevenTo (rightF n (hallsN n) x).1 (hallsN n) n.toNat, (0 : Int)) else (0, 10)).2 = 0) && decide ((if (rightF n (hallsN n) x).2 = true then (unevenTo (rightF n (hallsN n) x).1 (hallsN n) n.toNat, (0 : Int)) else (0, 10)).1 ≤ u - 1)) = false := by
   by_cases hr : (rightF n (hallsN n) x).2 = true
   ·
    have := E.least x hr
    simp only [hr, if_true, decide_true, Bool.true_and, decide_eq_false_iff_not]
    omega
   ·
    simp [hr]
  rw [hx, hfalse]
  simp only [Option.bind_some]
  obtain ⟨r, hr, r0, r1⟩ := word_ok words hw hwl 0
  have hr : kingpinlaw08_word.f words 0 = some r := hr
  have t0 := Int.tmod_nonneg (a := r) n r0
  have t1 := Int.tmod_lt_of_pos r (show (0 : Int) < n by omega)
  refine Ev.step (f := fun k => kingpinlaw08_LeagueEvenest.l0 k words n b u [] (Int.tmod r n) ((0 : Nat) : Int)) (fun k => ?_) ?_
  ·
   simp only [kingpinlaw08_LeagueEvenest.j0]
   rw [if_neg (by decide), hr, Option.bind_some, if_neg (by omega)]
   rfl
  ·
   have := even_l0 words n (hallsN n) hh h1 n2 b u E.short.1 E.short.2 hw hwl (Int.tmod r n) (fun ts hl ht => ?_) b.length 0 [] rfl (Nat.zero_le _) rfl (by simp)
   ·
    rw [List.take_zero] at this
    exact this
   ·
    have hok := E.ok (Int.tmod r n) ts t0 t1 hl ht
    have hle := E.least _ hok
    rw [uneven_of n2 n6, Option.bind_some]
    simp only [hok, if_true, if_pos hle, ge_iff_le]
    exact hawk
end Go.Proofs.Ytmnamkcjldaoeaa.PAll
