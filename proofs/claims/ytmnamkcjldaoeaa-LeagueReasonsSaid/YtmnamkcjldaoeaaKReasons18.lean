/- Parts of the proof of leagueReasons_holds, in order: HAwake, HP1, HP4, HP12, HRRules, F42, HP10, F8, HP11, L8 -/
import Derived.Test.YtmnamkcjldaoeaaKReasons3
import Derived.Test.YtmnamkcjldaoeaaKReasons5
import Derived.Test.YtmnamkcjldaoeaaKReasons6
import Derived.Test.YtmnamkcjldaoeaaKReasons11
import Derived.Test.YtmnamkcjldaoeaaKReasons13
import Derived.Test.YtmnamkcjldaoeaaKReasons14
import Derived.Test.YtmnamkcjldaoeaaKReasons16
import Derived.Test.YtmnamkcjldaoeaaKReasons17
import Derived.Deep.RegionWith
namespace Go.Proofs.Ytmnamkcjldaoeaa.PAll
open Go.RowKit Go.Proofs.YtmnamkcjldaoeaaW.PrintWords Go.Proofs.YtmnamkcjldaoeaaW.PrintLast Go.Proofs.YtmnamkcjldaoeaaW.PrintMore
attribute [local go_sem] max2_int min2_int max_two min_two max_three min_three max_four min_four   -- for this text's walks alone
set_option linter.unusedVariables false
set_option linter.unusedSimpArgs false
def awakeF (k : Nat)  : Option (Bool) := (kingpinlaw08_played.f).bind fun bt176 => ((league_Rank.f k bt176.1 bt176.2 (([1, 3] : List Int))).bind fun bt183 => ((kingpinlaw08_played.f).bind fun bt187 => ((league_After.f bt187.1 bt187.2 (([3, 2] : List Int))).bind fun bt194 => ((kingpinlaw08_played.f).bind fun bt198 => ((league_Reason.f bt198.1 bt198.2 2).bind fun bt202 => ((league_Build.f 4).bind fun bt206 => (if bt183.2 = 0 then ((kingpinlaw08_ints.f k bt183.1 (([1, 1, 3, 4] : List Int))).bind fun t213 => (if t213 = true then (if bt194.2 = 0 then ((kingpinlaw08_ints.f k bt194.1 (([2, 3, 2, 3] : List Int))).bind fun t217 => (if t217 = true then (if bt202.2 = 0 then ((kingpinlaw08_ints.f k bt202.1 (([0, 1, 3] : List Int))).bind fun t221 => (if t221 = true then (if bt206.2 = 0 then ((league_ProveSchedule.f 4 bt206.1 3).bind fun t222 => (if t222 = true then ((league_ProveSchedule.f 4 bt206.1 2).bind fun t223 => (some (!t223))) else (some false))) else (some false)) else (some false))) else (some false)) else (some false))) else (some false)) else (some false))) else (some false))))))))
set_option maxHeartbeats 8000000 in
set_option maxRecDepth 100000 in
theorem awake_calls (k : Nat) (r : Bool) (w : World) (hr : r = true) (h : awakeF k = some r) :
  Calls Try.prog 16 #[] w fun e w' => e = .returned (.bool r) ∧ Below w.heap.size w w' := by
 have HB := Aside0.mk (Below.refl w.heap.size w)
 have H : ((kingpinlaw08_played.f).bind fun bt176 => ((league_Rank.f k bt176.1 bt176.2 (([1, 3] : List Int))).bind fun bt183 => ((kingpinlaw08_played.f).bind fun bt187 => ((league_After.f bt187.1 bt187.2 (([3, 2] : List Int))).bind fun bt194 => ((kingpinlaw08_played.f).bind fun bt198 => ((league_Reason.f bt198.1 bt198.2 2).bind fun bt202 => ((league_Build.f 4).bind fun bt206 => (if bt183.2 = 0 then ((kingpinlaw08_ints.f k bt183.1 (([1, 1, 3, 4] : List Int))).bind fun t213 => (if t213 = true then (if bt194.2 = 0 then ((kingpinlaw08_ints.f k bt194.1 (([2, 3, 2, 3] : List Int))).bind fun t217 => (if t217 = true then (if bt202.2 = 0 then ((kingpinlaw08_ints.f k bt202.1 (([0, 1, 3] : List Int))).bind fun t221 => (if t221 = true then (if bt206.2 = 0 then ((league_ProveSchedule.f 4 bt206.1 3).bind fun t222 => (if t222 = true then ((league_ProveSchedule.f 4 bt206.1 2).bind fun t223 => (some (!t223))) else (some false))) else (some false)) else (some false))) else (some false)) else (some false))) else (some false)) else (some false))) else (some false))))))))) = some r := h
 clear h
 replace H := Option.bind_eq_some_iff.mp H
 obtain ⟨⟨t176, t177⟩, A10, H⟩ := H
 replace H : ((league_Rank.f k t176 t177 (([1, 3] : List Int))).bind fun bt183 => ((kingpinlaw08_played.f).bind fun bt187 => ((league_After.f bt187.1 bt187.2 (([3, 2] : List Int))).bind fun bt194 => ((kingpinlaw08_played.f).bind fun bt198 => ((league_Reason.f bt198.1 bt198.2 2).bind fun bt202 => ((league_Build.f 4).bind fun bt206 => (if bt183.2 = 0 then ((kingpinlaw08_ints.f k bt183.1 (([1, 1, 3, 4] : List Int))).bind fun t213 => (if t213 = true then (if bt194.2 = 0 then ((kingpinlaw08_ints.f k bt194.1 (([2, 3, 2, 3] : List Int))).bind fun t217 => (if t217 = true then (if bt202.2 = 0 then ((kingpinlaw08_ints.f k bt202.1 (([0, 1, 3] : List Int))).bind fun t221 => (if t221 = true then (if bt206.2 = 0 then ((league_ProveSchedule.f 4 bt206.1 3).bind fun t222 => (if t222 = true then ((league_ProveSchedule.f 4 bt206.1 2).bind fun t223 => (some (!t223))) else (some false))) else (some false)) else (some false))) else (some false)) else (some false))) else (some false)) else (some false))) else (some false)))))))) = some r := H
 have A1 := Aside0.mk A10
 clear A10
 obtain ⟨y180, hy180⟩ : ∃ y_ : List Int, y_ = (([1, 3] : List Int)) := ⟨_, rfl⟩
 replace H : ((league_Rank.f k t176 t177 y180).bind fun bt183 => ((kingpinlaw08_played.f).bind fun bt187 => ((league_After.f bt187.1 bt187.2 (([3, 2] : List Int))).bind fun bt194 => ((kingpinlaw08_played.f).bind fun bt198 => ((league_Reason.f bt198.1 bt198.2 2).bind fun bt202 => ((league_Build.f 4).bind fun bt206 => (if bt183.2 = 0 then ((kingpinlaw08_ints.f k bt183.1 (([1, 1, 3, 4] : List Int))).bind fun t213 => (if t213 = true then (if bt194.2 = 0 then ((kingpinlaw08_ints.f k bt194.1 (([2, 3, 2, 3] : List Int))).bind fun t217 => (if t217 = true then (if bt202.2 = 0 then ((kingpinlaw08_ints.f k bt202.1 (([0, 1, 3] : List Int))).bind fun t221 => (if t221 = true then (if bt206.2 = 0 then ((league_ProveSchedule.f 4 bt206.1 3).bind fun t222 => (if t222 = true then ((league_ProveSchedule.f 4 bt206.1 2).bind fun t223 => (some (!t223))) else (some false))) else (some false)) else (some false))) else (some false)) else (some false))) else (some false)) else (some false))) else (some false)))))))) = some r := by first | (rw [hy180]; with_reducible exact H) | (have H2_ := (Option.bind_some _ _).symm.trans H; rw [hy180]; with_reducible exact H2_) | (have H2_ := (Option.bind_some _ _).symm.trans H; with_reducible exact H2_) | with_reducible exact H | (rw [hy180]; exact H) | exact H
 have Ny180 := Aside0.mk hy180
 clear hy180
 replace H := Option.bind_eq_some_iff.mp H
 obtain ⟨⟨t183, t186⟩, A20, H⟩ := H
 replace H : ((kingpinlaw08_played.f).bind fun bt187 => ((league_After.f bt187.1 bt187.2 (([3, 2] : List Int))).bind fun bt194 => ((kingpinlaw08_played.f).bind fun bt198 => ((league_Reason.f bt198.1 bt198.2 2).bind fun bt202 => ((league_Build.f 4).bind fun bt206 => (if t186 = 0 then ((kingpinlaw08_ints.f k t183 (([1, 1, 3, 4] : List Int))).bind fun t213 => (if t213 = true then (if bt194.2 = 0 then ((kingpinlaw08_ints.f k bt194.1 (([2, 3, 2, 3] : List Int))).bind fun t217 => (if t217 = true then (if bt202.2 = 0 then ((kingpinlaw08_ints.f k bt202.1 (([0, 1, 3] : List Int))).bind fun t221 => (if t221 = true then (if bt206.2 = 0 then ((league_ProveSchedule.f 4 bt206.1 3).bind fun t222 => (if t222 = true then ((league_ProveSchedule.f 4 bt206.1 2).bind fun t223 => (some (!t223))) else (some false))) else (some false)) else (some false))) else (some false)) else (some false))) else (some false)) else (some false))) else (some false))))))) = some r := H
 have A2 := Aside0.mk A20
 clear A20
 replace H := Option.bind_eq_some_iff.mp H
 obtain ⟨⟨t187, t188⟩, A30, H⟩ := H
 replace H : ((league_After.f t187 t188 (([3, 2] : List Int))).bind fun bt194 => ((kingpinlaw08_played.f).bind fun bt198 => ((league_Reason.f bt198.1 bt198.2 2).bind fun bt202 => ((league_Build.f 4).bind fun bt206 => (if t186 = 0 then ((kingpinlaw08_ints.f k t183 (([1, 1, 3, 4] : List Int))).bind fun t213 => (if t213 = true then (if bt194.2 = 0 then ((kingpinlaw08_ints.f k bt194.1 (([2, 3, 2, 3] : List Int))).bind fun t217 => (if t217 = true then (if bt202.2 = 0 then ((kingpinlaw08_ints.f k bt202.1 (([0, 1, 3] : List Int))).bind fun t221 => (if t221 = true then (if bt206.2 = 0 then ((league_ProveSchedule.f 4 bt206.1 3).bind fun t222 => (if t222 = true then ((league_ProveSchedule.f 4 bt206.1 2).bind fun t223 => (some (!t223))) else (some false))) else (some false)) else (some false))) else (some false)) else (some false))) else (some false)) else (some false))) else (some false)))))) = some r := H
 have A3 := Aside0.mk A30
 clear A30
 obtain ⟨y191, hy191⟩ : ∃ y_ : List Int, y_ = (([3, 2] : List Int)) := ⟨_, rfl⟩
 replace H : ((league_After.f t187 t188 y191).bind fun bt194 => ((kingpinlaw08_played.f).bind fun bt198 => ((league_Reason.f bt198.1 bt198.2 2).bind fun bt202 => ((league_Build.f 4).bind fun bt206 => (if t186 = 0 then ((kingpinlaw08_ints.f k t183 (([1, 1, 3, 4] : List Int))).bind fun t213 => (if t213 = true then (if bt194.2 = 0 then ((kingpinlaw08_ints.f k bt194.1 (([2, 3, 2, 3] : List Int))).bind fun t217 => (if t217 = true then (if bt202.2 = 0 then ((kingpinlaw08_ints.f k bt202.1 (([0, 1, 3] : List Int))).bind fun t221 => (if t221 = true then (if bt206.2 = 0 then ((league_ProveSchedule.f 4 bt206.1 3).bind fun t222 => (if t222 = true then ((league_ProveSchedule.f 4 bt206.1 2).bind fun t223 => (some (!t223))) else (some false))) else (some false)) else (some false))) else (some false)) else (some false))) else (some false)) else (some false))) else (some false)))))) = some r := by first | (rw [hy191]; with_reducible exact H) | (have H2_ := (Option.bind_some _ _).symm.trans H; rw [hy191]; with_reducible exact H2_) | (have H2_ := (Option.bind_some _ _).symm.trans H; with_reducible exact H2_) | with_reducible exact H | (rw [hy191]; exact H) | exact H
 have Ny191 := Aside0.mk hy191
 clear hy191
 replace H := Option.bind_eq_some_iff.mp H
 obtain ⟨⟨t194, t197⟩, A40, H⟩ := H
 replace H : ((kingpinlaw08_played.f).bind fun bt198 => ((league_Reason.f bt198.1 bt198.2 2).bind fun bt202 => ((league_Build.f 4).bind fun bt206 => (if t186 = 0 then ((kingpinlaw08_ints.f k t183 (([1, 1, 3, 4] : List Int))).bind fun t213 => (if t213 = true then (if t197 = 0 then ((kingpinlaw08_ints.f k t194 (([2, 3, 2, 3] : List Int))).bind fun t217 => (if t217 = true then (if bt202.2 = 0 then ((kingpinlaw08_ints.f k bt202.1 (([0, 1, 3] : List Int))).bind fun t221 => (if t221 = true then (if bt206.2 = 0 then ((league_ProveSchedule.f 4 bt206.1 3).bind fun t222 => (if t222 = true then ((league_ProveSchedule.f 4 bt206.1 2).bind fun t223 => (some (!t223))) else (some false))) else (some false)) else (some false))) else (some false)) else (some false))) else (some false)) else (some false))) else (some false))))) = some r := H
 have A4 := Aside0.mk A40
 clear A40
 replace H := Option.bind_eq_some_iff.mp H
 obtain ⟨⟨t198, t199⟩, A50, H⟩ := H
 replace H : ((league_Reason.f t198 t199 2).bind fun bt202 => ((league_Build.f 4).bind fun bt206 => (if t186 = 0 then ((kingpinlaw08_ints.f k t183 (([1, 1, 3, 4] : List Int))).bind fun t213 => (if t213 = true then (if t197 = 0 then ((kingpinlaw08_ints.f k t194 (([2, 3, 2, 3] : List Int))).bind fun t217 => (if t217 = true then (if bt202.2 = 0 then ((kingpinlaw08_ints.f k bt202.1 (([0, 1, 3] : List Int))).bind fun t221 => (if t221 = true then (if bt206.2 = 0 then ((league_ProveSchedule.f 4 bt206.1 3).bind fun t222 => (if t222 = true then ((league_ProveSchedule.f 4 bt206.1 2).bind fun t223 => (some (!t223))) else (some false))) else (some false)) else (some false))) else (some false)) else (some false))) else (some false)) else (some false))) else (some false)))) = some r := H
 have A5 := Aside0.mk A50
 clear A50
 replace H := Option.bind_eq_some_iff.mp H
 obtain ⟨⟨t202, t205⟩, A60, H⟩ := H
 replace H : ((league_Build.f 4).bind fun bt206 => (if t186 = 0 then ((kingpinlaw08_ints.f k t183 (([1, 1, 3, 4] : List Int))).bind fun t213 => (if t213 = true then (if t197 = 0 then ((kingpinlaw08_ints.f k t194 (([2, 3, 2, 3] : List Int))).bind fun t217 => (if t217 = true then (if t205 = 0 then ((kingpinlaw08_ints.f k t202 (([0, 1, 3] : List Int))).bind fun t221 => (if t221 = true then (if bt206.2 = 0 then ((league_ProveSchedule.f 4 bt206.1 3).bind fun t222 => (if t222 = true then ((league_ProveSchedule.f 4 bt206.1 2).bind fun t223 => (some (!t223))) else (some false))) else (some false)) else (some false))) else (some false)) else (some false))) else (some false)) else (some false))) else (some false))) = some r := H
 have A6 := Aside0.mk A60
 clear A60
 replace H := Option.bind_eq_some_iff.mp H
 obtain ⟨⟨t206, t207⟩, A70, H⟩ := H
 replace H : (if t186 = 0 then ((kingpinlaw08_ints.f k t183 (([1, 1, 3, 4] : List Int))).bind fun t213 => (if t213 = true then (if t197 = 0 then ((kingpinlaw08_ints.f k t194 (([2, 3, 2, 3] : List Int))).bind fun t217 => (if t217 = true then (if t205 = 0 then ((kingpinlaw08_ints.f k t202 (([0, 1, 3] : List Int))).bind fun t221 => (if t221 = true then (if t207 = 0 then ((league_ProveSchedule.f 4 t206 3).bind fun t222 => (if t222 = true then ((league_ProveSchedule.f 4 t206 2).bind fun t223 => (some (!t223))) else (some false))) else (some false)) else (some false))) else (some false)) else (some false))) else (some false)) else (some false))) else (some false)) = some r := H
 have A7 := Aside0.mk A70
 clear A70
 by_cases c8 : t186 = 0
 ·
  rw [if_pos c8] at H
  have c8b0 : (t186 == 0) = true := beq_iff_eq.mpr c8
  have c8b1 : (t186 != 0) = false := bne_eq_false_iff_eq.mpr c8
  clear c8
  obtain ⟨y210, hy210⟩ : ∃ y_ : List Int, y_ = (([1, 1, 3, 4] : List Int)) := ⟨_, rfl⟩
  replace H : ((kingpinlaw08_ints.f k t183 y210).bind fun t213 => (if t213 = true then (if t197 = 0 then ((kingpinlaw08_ints.f k t194 (([2, 3, 2, 3] : List Int))).bind fun t217 => (if t217 = true then (if t205 = 0 then ((kingpinlaw08_ints.f k t202 (([0, 1, 3] : List Int))).bind fun t221 => (if t221 = true then (if t207 = 0 then ((league_ProveSchedule.f 4 t206 3).bind fun t222 => (if t222 = true then ((league_ProveSchedule.f 4 t206 2).bind fun t223 => (some (!t223))) else (some false))) else (some false)) else (some false))) else (some false)) else (some false))) else (some false)) else (some false))) = some r := by first | (rw [hy210]; with_reducible exact H) | (have H2_ := (Option.bind_some _ _).symm.trans H; rw [hy210]; with_reducible exact H2_) | (have H2_ := (Option.bind_some _ _).symm.trans H; with_reducible exact H2_) | with_reducible exact H | (rw [hy210]; exact H) | exact H
  have Ny210 := Aside0.mk hy210
  clear hy210
  replace H := Option.bind_eq_some_iff.mp H
  obtain ⟨t213, A90, H⟩ := H
  replace H : (if t213 = true then (if t197 = 0 then ((kingpinlaw08_ints.f k t194 (([2, 3, 2, 3] : List Int))).bind fun t217 => (if t217 = true then (if t205 = 0 then ((kingpinlaw08_ints.f k t202 (([0, 1, 3] : List Int))).bind fun t221 => (if t221 = true then (if t207 = 0 then ((league_ProveSchedule.f 4 t206 3).bind fun t222 => (if t222 = true then ((league_ProveSchedule.f 4 t206 2).bind fun t223 => (some (!t223))) else (some false))) else (some false)) else (some false))) else (some false)) else (some false))) else (some false)) else (some false)) = some r := H
  have A9 := Aside0.mk A90
  clear A90
  by_cases c10 : t213 = true
  ·
   subst c10
   have H1 : (if t197 = 0 then ((kingpinlaw08_ints.f k t194 (([2, 3, 2, 3] : List Int))).bind fun t217 => (if t217 = true then (if t205 = 0 then ((kingpinlaw08_ints.f k t202 (([0, 1, 3] : List Int))).bind fun t221 => (if t221 = true then (if t207 = 0 then ((league_ProveSchedule.f 4 t206 3).bind fun t222 => (if t222 = true then ((league_ProveSchedule.f 4 t206 2).bind fun t223 => (some (!t223))) else (some false))) else (some false)) else (some false))) else (some false)) else (some false))) else (some false)) = some r := by rw [if_pos rfl] at H; exact H
   clear H
   have H := H1
   clear H1
   by_cases c11 : t197 = 0
   ·
    rw [if_pos c11] at H
    have c11b0 : (t197 == 0) = true := beq_iff_eq.mpr c11
    have c11b1 : (t197 != 0) = false := bne_eq_false_iff_eq.mpr c11
    clear c11
    obtain ⟨y214, hy214⟩ : ∃ y_ : List Int, y_ = (([2, 3, 2, 3] : List Int)) := ⟨_, rfl⟩
    replace H : ((kingpinlaw08_ints.f k t194 y214).bind fun t217 => (if t217 = true then (if t205 = 0 then ((kingpinlaw08_ints.f k t202 (([0, 1, 3] : List Int))).bind fun t221 => (if t221 = true then (if t207 = 0 then ((league_ProveSchedule.f 4 t206 3).bind fun t222 => (if t222 = true then ((league_ProveSchedule.f 4 t206 2).bind fun t223 => (some (!t223))) else (some false))) else (some false)) else (some false))) else (some false)) else (some false))) = some r := by first | (rw [hy214]; with_reducible exact H) | (have H2_ := (Option.bind_some _ _).symm.trans H; rw [hy214]; with_reducible exact H2_) | (have H2_ := (Option.bind_some _ _).symm.trans H; with_reducible exact H2_) | with_reducible exact H | (rw [hy214]; exact H) | exact H
    have Ny214 := Aside0.mk hy214
    clear hy214
    replace H := Option.bind_eq_some_iff.mp H
    obtain ⟨t217, A120, H⟩ := H
    replace H : (if t217 = true then (if t205 = 0 then ((kingpinlaw08_ints.f k t202 (([0, 1, 3] : List Int))).bind fun t221 => (if t221 = true then (if t207 = 0 then ((league_ProveSchedule.f 4 t206 3).bind fun t222 => (if t222 = true then ((league_ProveSchedule.f 4 t206 2).bind fun t223 => (some (!t223))) else (some false))) else (some false)) else (some false))) else (some false)) else (some false)) = some r := H
    have A12 := Aside0.mk A120
    clear A120
    by_cases c13 : t217 = true
    ·
     subst c13
     have H1 : (if t205 = 0 then ((kingpinlaw08_ints.f k t202 (([0, 1, 3] : List Int))).bind fun t221 => (if t221 = true then (if t207 = 0 then ((league_ProveSchedule.f 4 t206 3).bind fun t222 => (if t222 = true then ((league_ProveSchedule.f 4 t206 2).bind fun t223 => (some (!t223))) else (some false))) else (some false)) else (some false))) else (some false)) = some r := by rw [if_pos rfl] at H; exact H
     clear H
     have H := H1
     clear H1
     by_cases c14 : t205 = 0
     ·
      rw [if_pos c14] at H
      have c14b0 : (t205 == 0) = true := beq_iff_eq.mpr c14
      have c14b1 : (t205 != 0) = false := bne_eq_false_iff_eq.mpr c14
      clear c14
      obtain ⟨y218, hy218⟩ : ∃ y_ : List Int, y_ = (([0, 1, 3] : List Int)) := ⟨_, rfl⟩
      replace H : ((kingpinlaw08_ints.f k t202 y218).bind fun t221 => (if t221 = true then (if t207 = 0 then ((league_ProveSchedule.f 4 t206 3).bind fun t222 => (if t222 = true then ((league_ProveSchedule.f 4 t206 2).bind fun t223 => (some (!t223))) else (some false))) else (some false)) else (some false))) = some r := by first | (rw [hy218]; with_reducible exact H) | (have H2_ := (Option.bind_some _ _).symm.trans H; rw [hy218]; with_reducible exact H2_) | (have H2_ := (Option.bind_some _ _).symm.trans H; with_reducible exact H2_) | with_reducible exact H | (rw [hy218]; exact H) | exact H
      have Ny218 := Aside0.mk hy218
      clear hy218
      replace H := Option.bind_eq_some_iff.mp H
      obtain ⟨t221, A150, H⟩ := H
      replace H : (if t221 = true then (if t207 = 0 then ((league_ProveSchedule.f 4 t206 3).bind fun t222 => (if t222 = true then ((league_ProveSchedule.f 4 t206 2).bind fun t223 => (some (!t223))) else (some false))) else (some false)) else (some false)) = some r := H
      have A15 := Aside0.mk A150
      clear A150
      by_cases c16 : t221 = true
      ·
       subst c16
       have H1 : (if t207 = 0 then ((league_ProveSchedule.f 4 t206 3).bind fun t222 => (if t222 = true then ((league_ProveSchedule.f 4 t206 2).bind fun t223 => (some (!t223))) else (some false))) else (some false)) = some r := by rw [if_pos rfl] at H; exact H
       clear H
       have H := H1
       clear H1
       by_cases c17 : t207 = 0
       ·
        rw [if_pos c17] at H
        have c17b0 : (t207 == 0) = true := beq_iff_eq.mpr c17
        have c17b1 : (t207 != 0) = false := bne_eq_false_iff_eq.mpr c17
        clear c17
        replace H := Option.bind_eq_some_iff.mp H
        obtain ⟨t222, A180, H⟩ := H
        replace H : (if t222 = true then ((league_ProveSchedule.f 4 t206 2).bind fun t223 => (some (!t223))) else (some false)) = some r := H
        have A18 := Aside0.mk A180
        clear A180
        by_cases c19 : t222 = true
        ·
         subst c19
         have H1 : ((league_ProveSchedule.f 4 t206 2).bind fun t223 => (some (!t223))) = some r := by rw [if_pos rfl] at H; exact H
         clear H
         have H := H1
         clear H1
         replace H := Option.bind_eq_some_iff.mp H
         obtain ⟨t223, A200, H⟩ := H
         replace H : (some (!t223)) = some r := H
         have A20 := Aside0.mk A200
         clear A200
         obtain rfl := Option.some.inj H
         go_enter Try.func16, Try.ntmps16
         go_wp2_with (first | ((with_reducible refine gate_callee (f := 49) rfl ?_); refine goesL_ (some 10) rfl rfl Try.func49 (by kernel_rfl) rfl #[] rfl (by (try simp only [List.map_toArray, List.map_cons, List.map_nil]); first | done | rfl | (simp only [List.length_drop, List.length_take]; rfl)) ?_; (with_reducible refine (kingpinlaw08_played.calls  t176 t177 _ A1.out).mono ?_); rintro e w21 ⟨v178, rfl, ho0, hb⟩; refine ⟨_, rfl, ?_⟩; have n0_ := Aside0.mk (Kd.R_lower ho0 (below_size (by repeat (first | (with_reducible first | exact HB.out | apply below_alloc | apply pw_below_drewN | apply below_drew1) | exact HB.out)))); have n1_ := Aside0.mk (below_step (by repeat (first | (with_reducible first | exact HB.out | apply below_alloc | apply pw_below_drewN | apply below_drew1) | exact HB.out)) hb); clear HB; have HO179 := n0_; have HB := n1_; clear n0_ n1_; (try clear hb); (try clear hb2); (try clear hk); (try clear hi); (try clear ho0)) | ((with_reducible refine gate_dst (N := 11) rfl ?_); (try (refine gate_guard (by rfl) ?_; dsimp only)); refine Kd.R_lit (Kd.int .u8) _ 5 ?hg (N := 11) ?hd (xs := ([1, 3] : List Int)) (inner := [.int .u8 1, .int .u8 3]) (ok := fun _ => True) (okp := fun _ => True) ?hr ?hp (fun _ hk => hk) trivial (Below.refl _ _) (Nat.le_refl _) (by simp) ?_; (case hd => rfl); (case hg => rfl); (case hr => first | (go_simp; done) | (go_simp; rfl)); (case hp => exact (Reps.one (show Kd.M (Kd.int .u8) _ _ _ 1 [.int .u8 1] from rfl) (Reps.one (show Kd.M (Kd.int .u8) _ _ _ 3 [.int .u8 3] from rfl) (Reps.none _ _)))); intro v181 w22 ho23 hb hg_ hnew_; clear hg_ hnew_; (first | rw [← Ny180.out] at ho23 | (simp only [Int.reduceToNat] at ho23; rw [← Ny180.out] at ho23)); have n0_ := Aside0.mk (Kd.R_below (by (with_reducible repeat (first | apply Kd.R_alloc | apply Kd.R_drewN | apply Kd.R_drew)); exact HO179.out) hb); have n1_ := Aside0.mk (Kd.R_lower ho23 (below_size (by repeat (first | (with_reducible first | exact HB.out | apply below_alloc | apply pw_below_drewN | apply below_drew1) | exact HB.out)))); have n2_ := Aside0.mk (below_step (by repeat (first | (with_reducible first | exact HB.out | apply below_alloc | apply pw_below_drewN | apply below_drew1) | exact HB.out)) hb); clear HO179; clear HB; have HO179 := n0_; have HO182 := n1_; have HB := n2_; clear n0_ n1_ n2_; clear hb ho23; obtain ⟨Ao24, co24, eo24⟩ := Kd.R_slice HO179.out; subst eo24; obtain ⟨Ao25, co25, eo25⟩ := Kd.R_slice HO182.out; subst eo25) | ((with_reducible refine gate_callee (f := 19) rfl ?_); refine goesL_ (some 12) rfl rfl Try.func19 (by kernel_rfl) rfl #[.agg #[.int .i64 t176, .slice Ao24 t177.length co24], .slice Ao25 y180.length co25] rfl (by (try simp only [List.map_toArray, List.map_cons, List.map_nil]); first | done | rfl | (simp only [List.length_drop, List.length_take]; rfl)) ?_; (with_reducible refine (league_Rank.calls k t176 _ _ t177 _ _ y180 t183 t186 _ ?side1 ?side2 ?side3 ?side4 A2.out).mono ?_); (case side1 => repeat (first | exact (Kd.R_reads' HO179.out).2.2 | (with_reducible refine Kd.C_alloc ?_ _) | (with_reducible refine Kd.C_drewN ?_ _) | (with_reducible refine Kd.C_drew ?_))); (case side2 => exact (Kd.R_reads' HO179.out).2.1); (case side3 => repeat (first | exact (Kd.R_reads' HO182.out).2.2 | (with_reducible refine Kd.C_alloc ?_ _) | (with_reducible refine Kd.C_drewN ?_ _) | (with_reducible refine Kd.C_drew ?_))); (case side4 => exact (Kd.R_reads' HO182.out).2.1); rintro e w26 ⟨v184, rfl, ho0, hb⟩; refine ⟨_, rfl, ?_⟩; have n0_ := Aside0.mk (Kd.R_below (by (with_reducible repeat (first | apply Kd.R_alloc | apply Kd.R_drewN | apply Kd.R_drew)); exact HO179.out) hb); have n1_ := Aside0.mk (Kd.R_below (by (with_reducible repeat (first | apply Kd.R_alloc | apply Kd.R_drewN | apply Kd.R_drew)); exact HO182.out) hb); have n2_ := Aside0.mk (Kd.R_lower ho0 (below_size (by repeat (first | (with_reducible first | exact HB.out | apply below_alloc | apply pw_below_drewN | apply below_drew1) | exact HB.out)))); have n3_ := Aside0.mk (below_step (by repeat (first | (with_reducible first | exact HB.out | apply below_alloc | apply pw_below_drewN | apply below_drew1) | exact HB.out)) hb); clear HO179; clear HO182; clear HB; have HO179 := n0_; have HO182 := n1_; have HO185 := n2_; have HB := n3_; clear n0_ n1_ n2_ n3_; (try clear hb); (try clear hb2); (try clear hk); (try clear hi); (try clear ho0)) | ((with_reducible refine gate_callee (f := 49) rfl ?_); refine goesL_ (some 16) rfl rfl Try.func49 (by kernel_rfl) rfl #[] rfl (by (try simp only [List.map_toArray, List.map_cons, List.map_nil]); first | done | rfl | (simp only [List.length_drop, List.length_take]; rfl)) ?_; (with_reducible refine (kingpinlaw08_played.calls  t187 t188 _ A3.out).mono ?_); rintro e w27 ⟨v189, rfl, ho0, hb⟩; refine ⟨_, rfl, ?_⟩; have n0_ := Aside0.mk (Kd.R_elder' (by (with_reducible repeat (first | apply Kd.R_alloc | apply Kd.R_drewN | apply Kd.R_drew)); exact HO179.out) (Kd.R_base ho0) hb); have n1_ := Aside0.mk (Kd.R_below (by (with_reducible repeat (first | apply Kd.R_alloc | apply Kd.R_drewN | apply Kd.R_drew)); exact HO182.out) hb); have n2_ := Aside0.mk (Kd.R_below (by (with_reducible repeat (first | apply Kd.R_alloc | apply Kd.R_drewN | apply Kd.R_drew)); exact HO185.out) hb); have n3_ := Aside0.mk (Kd.R_lower (Kd.R_new' ho0 (Kd.R_lt (by (with_reducible repeat (first | apply Kd.R_alloc | apply Kd.R_drewN | apply Kd.R_drew)); exact HO179.out))) (below_size (by repeat (first | (with_reducible first | exact HB.out | apply below_alloc | apply pw_below_drewN | apply below_drew1) | exact HB.out)))); have n4_ := Aside0.mk (below_step (by repeat (first | (with_reducible first | exact HB.out | apply below_alloc | apply pw_below_drewN | apply below_drew1) | exact HB.out)) hb); clear HO179; clear HO182; clear HO185; clear HB; have HO179 := n0_; have HO182 := n1_; have HO185 := n2_; have HO190 := n3_; have HB := n4_; clear n0_ n1_ n2_ n3_ n4_; (try clear hb); (try clear hb2); (try clear hk); (try clear hi); (try clear ho0)) | ((with_reducible refine gate_dst (N := 17) rfl ?_); (try (refine gate_guard (by rfl) ?_; dsimp only)); refine Kd.R_lit (Kd.int .u8) _ 5 ?hg (N := 17) ?hd (xs := ([3, 2] : List Int)) (inner := [.int .u8 3, .int .u8 2]) (ok := fun _ => True) (okp := fun _ => True) ?hr ?hp (fun _ hk => hk) trivial (Below.refl _ _) (Nat.le_refl _) (by simp) ?_; (case hd => rfl); (case hg => rfl); (case hr => first | (go_simp; done) | (go_simp; rfl)); (case hp => exact (Reps.one (show Kd.M (Kd.int .u8) _ _ _ 3 [.int .u8 3] from rfl) (Reps.one (show Kd.M (Kd.int .u8) _ _ _ 2 [.int .u8 2] from rfl) (Reps.none _ _)))); intro v192 w28 ho29 hb hg_ hnew_; clear hg_ hnew_; (first | rw [← Ny191.out] at ho29 | (simp only [Int.reduceToNat] at ho29; rw [← Ny191.out] at ho29)); have n0_ := Aside0.mk (Kd.R_below (by (with_reducible repeat (first | apply Kd.R_alloc | apply Kd.R_drewN | apply Kd.R_drew)); exact HO179.out) hb); have n1_ := Aside0.mk (Kd.R_elder' (by (with_reducible repeat (first | apply Kd.R_alloc | apply Kd.R_drewN | apply Kd.R_drew)); exact HO182.out) (Kd.R_base ho29) hb); have n2_ := Aside0.mk (Kd.R_below (by (with_reducible repeat (first | apply Kd.R_alloc | apply Kd.R_drewN | apply Kd.R_drew)); exact HO185.out) hb); have n3_ := Aside0.mk (Kd.R_below (by (with_reducible repeat (first | apply Kd.R_alloc | apply Kd.R_drewN | apply Kd.R_drew)); exact HO190.out) hb); have n4_ := Aside0.mk (Kd.R_lower (Kd.R_new' ho29 (Kd.R_lt (by (with_reducible repeat (first | apply Kd.R_alloc | apply Kd.R_drewN | apply Kd.R_drew)); exact HO182.out))) (below_size (by repeat (first | (with_reducible first | exact HB.out | apply below_alloc | apply pw_below_drewN | apply below_drew1) | exact HB.out)))); have n5_ := Aside0.mk (below_step (by repeat (first | (with_reducible first | exact HB.out | apply below_alloc | apply pw_below_drewN | apply below_drew1) | exact HB.out)) hb); clear HO179; clear HO182; clear HO185; clear HO190; clear HB; have HO179 := n0_; have HO182 := n1_; have HO185 := n2_; have HO190 := n3_; have HO193 := n4_; have HB := n5_; clear n0_ n1_ n2_ n3_ n4_ n5_; clear hb ho29; obtain ⟨Ao30, co30, eo30⟩ := Kd.R_slice HO190.out; subst eo30; obtain ⟨Ao31, co31, eo31⟩ := Kd.R_slice HO193.out; subst eo31) | ((with_reducible refine gate_callee (f := 25) rfl ?_); refine goesL_ (some 18) rfl rfl Try.func25 (by kernel_rfl) rfl #[.agg #[.int .i64 t187, .slice Ao30 t188.length co30], .slice Ao31 y191.length co31] rfl (by (try simp only [List.map_toArray, List.map_cons, List.map_nil]); first | done | rfl | (simp only [List.length_drop, List.length_take]; rfl)) ?_; (with_reducible refine (league_After.calls t187 _ _ t188 _ _ y191 t194 t197 _ ?side1 ?side2 ?side3 ?side4 A4.out).mono ?_); (case side1 => repeat (first | exact (Kd.R_reads' HO190.out).2.2 | (with_reducible refine Kd.C_alloc ?_ _) | (with_reducible refine Kd.C_drewN ?_ _) | (with_reducible refine Kd.C_drew ?_))); (case side2 => exact (Kd.R_reads' HO190.out).2.1); (case side3 => repeat (first | exact (Kd.R_reads' HO193.out).2.2 | (with_reducible refine Kd.C_alloc ?_ _) | (with_reducible refine Kd.C_drewN ?_ _) | (with_reducible refine Kd.C_drew ?_))); (case side4 => exact (Kd.R_reads' HO193.out).2.1); rintro e w32 ⟨v195, rfl, ho0, hb⟩; refine ⟨_, rfl, ?_⟩; have n0_ := Aside0.mk (Kd.R_below (by (with_reducible repeat (first | apply Kd.R_alloc | apply Kd.R_drewN | apply Kd.R_drew)); exact HO179.out) hb); have n1_ := Aside0.mk (Kd.R_below (by (with_reducible repeat (first | apply Kd.R_alloc | apply Kd.R_drewN | apply Kd.R_drew)); exact HO182.out) hb); have n2_ := Aside0.mk (Kd.R_elder' (by (with_reducible repeat (first | apply Kd.R_alloc | apply Kd.R_drewN | apply Kd.R_drew)); exact HO185.out) (Kd.R_base ho0) hb); have n3_ := Aside0.mk (Kd.R_below (by (with_reducible repeat (first | apply Kd.R_alloc | apply Kd.R_drewN | apply Kd.R_drew)); exact HO190.out) hb); have n4_ := Aside0.mk (Kd.R_below (by (with_reducible repeat (first | apply Kd.R_alloc | apply Kd.R_drewN | apply Kd.R_drew)); exact HO193.out) hb); have n5_ := Aside0.mk (Kd.R_lower (Kd.R_new' ho0 (Kd.R_lt (by (with_reducible repeat (first | apply Kd.R_alloc | apply Kd.R_drewN | apply Kd.R_drew)); exact HO185.out))) (below_size (by repeat (first | (with_reducible first | exact HB.out | apply below_alloc | apply pw_below_drewN | apply below_drew1) | exact HB.out)))); have n6_ := Aside0.mk (below_step (by repeat (first | (with_reducible first | exact HB.out | apply below_alloc | apply pw_below_drewN | apply below_drew1) | exact HB.out)) hb); clear HO179; clear HO182; clear HO185; clear HO190; clear HO193; clear HB; have HO179 := n0_; have HO182 := n1_; have HO185 := n2_; have HO190 := n3_; have HO193 := n4_; have HO196 := n5_; have HB := n6_; clear n0_ n1_ n2_ n3_ n4_ n5_ n6_; (try clear hb); (try clear hb2); (try clear hk); (try clear hi); (try clear ho0)) | ((with_reducible refine gate_callee (f := 49) rfl ?_); refine goesL_ (some 22) rfl rfl Try.func49 (by kernel_rfl) rfl #[] rfl (by (try simp only [List.map_toArray, List.map_cons, List.map_nil]); first | done | rfl | (simp only [List.length_drop, List.length_take]; rfl)) ?_; (with_reducible refine (kingpinlaw08_played.calls  t198 t199 _ A5.out).mono ?_); rintro e w33 ⟨v200, rfl, ho0, hb⟩; refine ⟨_, rfl, ?_⟩; have n0_ := Aside0.mk (Kd.R_elder' (by (with_reducible repeat (first | apply Kd.R_alloc | apply Kd.R_drewN | apply Kd.R_drew)); exact HO179.out) (Kd.R_base ho0) hb); have n1_ := Aside0.mk (Kd.R_below (by (with_reducible repeat (first | apply Kd.R_alloc | apply Kd.R_drewN | apply Kd.R_drew)); exact HO182.out) hb); have n2_ := Aside0.mk (Kd.R_below (by (with_reducible repeat (first | apply Kd.R_alloc | apply Kd.R_drewN | apply Kd.R_drew)); exact HO185.out) hb); have n3_ := Aside0.mk (Kd.R_elder' (by (with_reducible repeat (first | apply Kd.R_alloc | apply Kd.R_drewN | apply Kd.R_drew)); exact HO190.out) (Kd.R_base ho0) hb); have n4_ := Aside0.mk (Kd.R_below (by (with_reducible repeat (first | apply Kd.R_alloc | apply Kd.R_drewN | apply Kd.R_drew)); exact HO193.out) hb); have n5_ := Aside0.mk (Kd.R_below (by (with_reducible repeat (first | apply Kd.R_alloc | apply Kd.R_drewN | apply Kd.R_drew)); exact HO196.out) hb); have n6_ := Aside0.mk (Kd.R_lower (Kd.R_new' (Kd.R_new' ho0 (Kd.R_lt (by (with_reducible repeat (first | apply Kd.R_alloc | apply Kd.R_drewN | apply Kd.R_drew)); exact HO179.out))) (Kd.R_lt (by (with_reducible repeat (first | apply Kd.R_alloc | apply Kd.R_drewN | apply Kd.R_drew)); exact HO190.out))) (below_size (by repeat (first | (with_reducible first | exact HB.out | apply below_alloc | apply pw_below_drewN | apply below_drew1) | exact HB.out)))); have n7_ := Aside0.mk (below_step (by repeat (first | (with_reducible first | exact HB.out | apply below_alloc | apply pw_below_drewN | apply below_drew1) | exact HB.out)) hb); clear HO179; clear HO182; clear HO185; clear HO190; clear HO193; clear HO196; clear HB; have HO179 := n0_; have HO182 := n1_; have HO185 := n2_; have HO190 := n3_; have HO193 := n4_; have HO196 := n5_; have HO201 := n6_; have HB := n7_; clear n0_ n1_ n2_ n3_ n4_ n5_ n6_ n7_; (try clear hb); (try clear hb2); (try clear hk); (try clear hi); (try clear ho0); obtain ⟨Ao34, co34, eo34⟩ := Kd.R_slice HO201.out; subst eo34) | ((with_reducible refine gate_callee (f := 37) rfl ?_); refine goesL_ (some 23) rfl rfl Try.func37 (by kernel_rfl) rfl #[.agg #[.int .i64 t198, .slice Ao34 t199.length co34], .int .i64 2] rfl (by (try simp only [List.map_toArray, List.map_cons, List.map_nil]); first | done | rfl | (simp only [List.length_drop, List.length_take]; rfl)) ?_; (with_reducible refine (league_Reason.calls t198 _ _ t199 2 t202 t205 _ ?side1 ?side2 A6.out).mono ?_); (case side1 => repeat (first | exact (Kd.R_reads' HO201.out).2.2 | (with_reducible refine Kd.C_alloc ?_ _) | (with_reducible refine Kd.C_drewN ?_ _) | (with_reducible refine Kd.C_drew ?_))); (case side2 => exact (Kd.R_reads' HO201.out).2.1); rintro e w35 ⟨v203, rfl, ho0, hb⟩; refine ⟨_, rfl, ?_⟩; have n0_ := Aside0.mk (Kd.R_below (by (with_reducible repeat (first | apply Kd.R_alloc | apply Kd.R_drewN | apply Kd.R_drew)); exact HO179.out) hb); have n1_ := Aside0.mk (Kd.R_below (by (with_reducible repeat (first | apply Kd.R_alloc | apply Kd.R_drewN | apply Kd.R_drew)); exact HO182.out) hb); have n2_ := Aside0.mk (Kd.R_elder' (by (with_reducible repeat (first | apply Kd.R_alloc | apply Kd.R_drewN | apply Kd.R_drew)); exact HO185.out) (Kd.R_base ho0) hb); have n3_ := Aside0.mk (Kd.R_below (by (with_reducible repeat (first | apply Kd.R_alloc | apply Kd.R_drewN | apply Kd.R_drew)); exact HO190.out) hb); have n4_ := Aside0.mk (Kd.R_below (by (with_reducible repeat (first | apply Kd.R_alloc | apply Kd.R_drewN | apply Kd.R_drew)); exact HO193.out) hb); have n5_ := Aside0.mk (Kd.R_elder' (by (with_reducible repeat (first | apply Kd.R_alloc | apply Kd.R_drewN | apply Kd.R_drew)); exact HO196.out) (Kd.R_base ho0) hb); have n6_ := Aside0.mk (Kd.R_below (by (with_reducible repeat (first | apply Kd.R_alloc | apply Kd.R_drewN | apply Kd.R_drew)); exact HO201.out) hb); have n7_ := Aside0.mk (Kd.R_lower (Kd.R_new' (Kd.R_new' ho0 (Kd.R_lt (by (with_reducible repeat (first | apply Kd.R_alloc | apply Kd.R_drewN | apply Kd.R_drew)); exact HO185.out))) (Kd.R_lt (by (with_reducible repeat (first | apply Kd.R_alloc | apply Kd.R_drewN | apply Kd.R_drew)); exact HO196.out))) (below_size (by repeat (first | (with_reducible first | exact HB.out | apply below_alloc | apply pw_below_drewN | apply below_drew1) | exact HB.out)))); have n8_ := Aside0.mk (below_step (by repeat (first | (with_reducible first | exact HB.out | apply below_alloc | apply pw_below_drewN | apply below_drew1) | exact HB.out)) hb); clear HO179; clear HO182; clear HO185; clear HO190; clear HO193; clear HO196; clear HO201; clear HB; have HO179 := n0_; have HO182 := n1_; have HO185 := n2_; have HO190 := n3_; have HO193 := n4_; have HO196 := n5_; have HO201 := n6_; have HO204 := n7_; have HB := n8_; clear n0_ n1_ n2_ n3_ n4_ n5_ n6_ n7_ n8_; (try clear hb); (try clear hb2); (try clear hk); (try clear hi); (try clear ho0)) | ((with_reducible refine gate_callee (f := 29) rfl ?_); refine goesL_ (some 27) rfl rfl Try.func29 (by kernel_rfl) rfl #[.int .i64 4] rfl (by (try simp only [List.map_toArray, List.map_cons, List.map_nil]); first | done | rfl | (simp only [List.length_drop, List.length_take]; rfl)) ?_; (with_reducible refine (league_Build.calls 4 t206 t207 _ A7.out).mono ?_); rintro e w36 ⟨v208, rfl, ho0, hb⟩; refine ⟨_, rfl, ?_⟩; have n0_ := Aside0.mk (Kd.R_below (by (with_reducible repeat (first | apply Kd.R_alloc | apply Kd.R_drewN | apply Kd.R_drew)); exact HO179.out) hb); have n1_ := Aside0.mk (Kd.R_below (by (with_reducible repeat (first | apply Kd.R_alloc | apply Kd.R_drewN | apply Kd.R_drew)); exact HO182.out) hb); have n2_ := Aside0.mk (Kd.R_below (by (with_reducible repeat (first | apply Kd.R_alloc | apply Kd.R_drewN | apply Kd.R_drew)); exact HO185.out) hb); have n3_ := Aside0.mk (Kd.R_below (by (with_reducible repeat (first | apply Kd.R_alloc | apply Kd.R_drewN | apply Kd.R_drew)); exact HO190.out) hb); have n4_ := Aside0.mk (Kd.R_below (by (with_reducible repeat (first | apply Kd.R_alloc | apply Kd.R_drewN | apply Kd.R_drew)); exact HO193.out) hb); have n5_ := Aside0.mk (Kd.R_below (by (with_reducible repeat (first | apply Kd.R_alloc | apply Kd.R_drewN | apply Kd.R_drew)); exact HO196.out) hb); have n6_ := Aside0.mk (Kd.R_below (by (with_reducible repeat (first | apply Kd.R_alloc | apply Kd.R_drewN | apply Kd.R_drew)); exact HO201.out) hb); have n7_ := Aside0.mk (Kd.R_below (by (with_reducible repeat (first | apply Kd.R_alloc | apply Kd.R_drewN | apply Kd.R_drew)); exact HO204.out) hb); have n8_ := Aside0.mk (Kd.S_lower ho0 (below_size (by repeat (first | (with_reducible first | exact HB.out | apply below_alloc | apply pw_below_drewN | apply below_drew1) | exact HB.out)))); have n9_ := Aside0.mk (below_step (by repeat (first | (with_reducible first | exact HB.out | apply below_alloc | apply pw_below_drewN | apply below_drew1) | exact HB.out)) hb); clear HO179; clear HO182; clear HO185; clear HO190; clear HO193; clear HO196; clear HO201; clear HO204; clear HB; have HO179 := n0_; have HO182 := n1_; have HO185 := n2_; have HO190 := n3_; have HO193 := n4_; have HO196 := n5_; have HO201 := n6_; have HO204 := n7_; have HO209 := n8_; have HB := n9_; clear n0_ n1_ n2_ n3_ n4_ n5_ n6_ n7_ n8_ n9_; (try clear hb); (try clear hb2); (try clear hk); (try clear hi); (try clear ho0)) | ((with_reducible refine gate_dst (N := 34) rfl ?_); (try (refine gate_guard (by rfl) ?_; dsimp only)); refine Kd.R_lit (Kd.int .i64) _ 3 ?hg (N := 34) ?hd (xs := ([1, 1, 3, 4] : List Int)) (inner := [.int .i64 1, .int .i64 1, .int .i64 3, .int .i64 4]) (ok := fun _ => True) (okp := fun _ => True) ?hr ?hp (fun _ hk => hk) trivial (Below.refl _ _) (Nat.le_refl _) (by simp) ?_; (case hd => rfl); (case hg => rfl); (case hr => first | (go_simp; done) | (go_simp; rfl)); (case hp => exact (Reps.one (show Kd.M (Kd.int .i64) _ _ _ 1 [.int .i64 1] from rfl) (Reps.one (show Kd.M (Kd.int .i64) _ _ _ 1 [.int .i64 1] from rfl) (Reps.one (show Kd.M (Kd.int .i64) _ _ _ 3 [.int .i64 3] from rfl) (Reps.one (show Kd.M (Kd.int .i64) _ _ _ 4 [.int .i64 4] from rfl) (Reps.none _ _)))))); intro v211 w37 ho38 hb hg_ hnew_; clear hg_ hnew_; (first | rw [← Ny210.out] at ho38 | (simp only [Int.reduceToNat] at ho38; rw [← Ny210.out] at ho38)); have n0_ := Aside0.mk (Kd.R_below (by (with_reducible repeat (first | apply Kd.R_alloc | apply Kd.R_drewN | apply Kd.R_drew)); exact HO179.out) hb); have n1_ := Aside0.mk (Kd.R_below (by (with_reducible repeat (first | apply Kd.R_alloc | apply Kd.R_drewN | apply Kd.R_drew)); exact HO182.out) hb); have n2_ := Aside0.mk (Kd.R_elder' (by (with_reducible repeat (first | apply Kd.R_alloc | apply Kd.R_drewN | apply Kd.R_drew)); exact HO185.out) (Kd.R_base ho38) hb); have n3_ := Aside0.mk (Kd.R_below (by (with_reducible repeat (first | apply Kd.R_alloc | apply Kd.R_drewN | apply Kd.R_drew)); exact HO190.out) hb); have n4_ := Aside0.mk (Kd.R_below (by (with_reducible repeat (first | apply Kd.R_alloc | apply Kd.R_drewN | apply Kd.R_drew)); exact HO193.out) hb); have n5_ := Aside0.mk (Kd.R_elder' (by (with_reducible repeat (first | apply Kd.R_alloc | apply Kd.R_drewN | apply Kd.R_drew)); exact HO196.out) (Kd.R_base ho38) hb); have n6_ := Aside0.mk (Kd.R_below (by (with_reducible repeat (first | apply Kd.R_alloc | apply Kd.R_drewN | apply Kd.R_drew)); exact HO201.out) hb); have n7_ := Aside0.mk (Kd.R_elder' (by (with_reducible repeat (first | apply Kd.R_alloc | apply Kd.R_drewN | apply Kd.R_drew)); exact HO204.out) (Kd.R_base ho38) hb); have n8_ := Aside0.mk (Kd.S_below (by (with_reducible repeat (first | apply Kd.S_alloc | apply Kd.S_drewN | apply Kd.S_drew)); exact HO209.out) hb); have n9_ := Aside0.mk (Kd.R_lower (Kd.R_new' (Kd.R_new' (Kd.R_new' ho38 (Kd.R_lt (by (with_reducible repeat (first | apply Kd.R_alloc | apply Kd.R_drewN | apply Kd.R_drew)); exact HO185.out))) (Kd.R_lt (by (with_reducible repeat (first | apply Kd.R_alloc | apply Kd.R_drewN | apply Kd.R_drew)); exact HO196.out))) (Kd.R_lt (by (with_reducible repeat (first | apply Kd.R_alloc | apply Kd.R_drewN | apply Kd.R_drew)); exact HO204.out))) (below_size (by repeat (first | (with_reducible first | exact HB.out | apply below_alloc | apply pw_below_drewN | apply below_drew1) | exact HB.out)))); have n10_ := Aside0.mk (below_step (by repeat (first | (with_reducible first | exact HB.out | apply below_alloc | apply pw_below_drewN | apply below_drew1) | exact HB.out)) hb); clear HO179; clear HO182; clear HO185; clear HO190; clear HO193; clear HO196; clear HO201; clear HO204; clear HO209; clear HB; have HO179 := n0_; have HO182 := n1_; have HO185 := n2_; have HO190 := n3_; have HO193 := n4_; have HO196 := n5_; have HO201 := n6_; have HO204 := n7_; have HO209 := n8_; have HO212 := n9_; have HB := n10_; clear n0_ n1_ n2_ n3_ n4_ n5_ n6_ n7_ n8_ n9_ n10_; clear hb ho38; obtain ⟨Ao39, co39, eo39⟩ := Kd.R_slice HO185.out; subst eo39; obtain ⟨Ao40, co40, eo40⟩ := Kd.R_slice HO212.out; subst eo40) | (go_at_call 23; (with_reducible refine (kingpinlaw08_ints.calls k _ _ t183 _ _ y210 true _ ?side1 ?side2 ?side3 ?side4 A9.out).mono ?_); (case side1 => repeat (first | exact (Kd.R_reads' HO185.out).2.2 | (with_reducible refine Kd.C_alloc ?_ _) | (with_reducible refine Kd.C_drewN ?_ _) | (with_reducible refine Kd.C_drew ?_))); (case side2 => exact (Kd.R_reads' HO185.out).2.1); (case side3 => repeat (first | exact (Kd.R_reads' HO212.out).2.2 | (with_reducible refine Kd.C_alloc ?_ _) | (with_reducible refine Kd.C_drewN ?_ _) | (with_reducible refine Kd.C_drew ?_))); (case side4 => exact (Kd.R_reads' HO212.out).2.1); rintro e w' ⟨rfl, ⟨nd, rfl⟩⟩) | ((with_reducible refine gate_dst (N := 43) rfl ?_); (try (refine gate_guard (by rfl) ?_; dsimp only)); refine Kd.R_lit (Kd.int .i64) _ 3 ?hg (N := 43) ?hd (xs := ([2, 3, 2, 3] : List Int)) (inner := [.int .i64 2, .int .i64 3, .int .i64 2, .int .i64 3]) (ok := fun _ => True) (okp := fun _ => True) ?hr ?hp (fun _ hk => hk) trivial (Below.refl _ _) (Nat.le_refl _) (by simp) ?_; (case hd => rfl); (case hg => rfl); (case hr => first | (go_simp; done) | (go_simp; rfl)); (case hp => exact (Reps.one (show Kd.M (Kd.int .i64) _ _ _ 2 [.int .i64 2] from rfl) (Reps.one (show Kd.M (Kd.int .i64) _ _ _ 3 [.int .i64 3] from rfl) (Reps.one (show Kd.M (Kd.int .i64) _ _ _ 2 [.int .i64 2] from rfl) (Reps.one (show Kd.M (Kd.int .i64) _ _ _ 3 [.int .i64 3] from rfl) (Reps.none _ _)))))); intro v215 w41 ho42 hb hg_ hnew_; clear hg_ hnew_; (first | rw [← Ny214.out] at ho42 | (simp only [Int.reduceToNat] at ho42; rw [← Ny214.out] at ho42)); have n0_ := Aside0.mk (Kd.R_below (by (with_reducible repeat (first | apply Kd.R_alloc | apply Kd.R_drewN | apply Kd.R_drew)); exact HO179.out) hb); have n1_ := Aside0.mk (Kd.R_below (by (with_reducible repeat (first | apply Kd.R_alloc | apply Kd.R_drewN | apply Kd.R_drew)); exact HO182.out) hb); have n2_ := Aside0.mk (Kd.R_elder' (by (with_reducible repeat (first | apply Kd.R_alloc | apply Kd.R_drewN | apply Kd.R_drew)); exact HO185.out) (Kd.R_base ho42) hb); have n3_ := Aside0.mk (Kd.R_below (by (with_reducible repeat (first | apply Kd.R_alloc | apply Kd.R_drewN | apply Kd.R_drew)); exact HO190.out) hb); have n4_ := Aside0.mk (Kd.R_below (by (with_reducible repeat (first | apply Kd.R_alloc | apply Kd.R_drewN | apply Kd.R_drew)); exact HO193.out) hb); have n5_ := Aside0.mk (Kd.R_elder' (by (with_reducible repeat (first | apply Kd.R_alloc | apply Kd.R_drewN | apply Kd.R_drew)); exact HO196.out) (Kd.R_base ho42) hb); have n6_ := Aside0.mk (Kd.R_below (by (with_reducible repeat (first | apply Kd.R_alloc | apply Kd.R_drewN | apply Kd.R_drew)); exact HO201.out) hb); have n7_ := Aside0.mk (Kd.R_elder' (by (with_reducible repeat (first | apply Kd.R_alloc | apply Kd.R_drewN | apply Kd.R_drew)); exact HO204.out) (Kd.R_base ho42) hb); have n8_ := Aside0.mk (Kd.S_below (by (with_reducible repeat (first | apply Kd.S_alloc | apply Kd.S_drewN | apply Kd.S_drew)); exact HO209.out) hb); have n9_ := Aside0.mk (Kd.R_elder' (by (with_reducible repeat (first | apply Kd.R_alloc | apply Kd.R_drewN | apply Kd.R_drew)); exact HO212.out) (Kd.R_base ho42) hb); have n10_ := Aside0.mk (Kd.R_lower (Kd.R_new' (Kd.R_new' (Kd.R_new' (Kd.R_new' ho42 (Kd.R_lt (by (with_reducible repeat (first | apply Kd.R_alloc | apply Kd.R_drewN | apply Kd.R_drew)); exact HO185.out))) (Kd.R_lt (by (with_reducible repeat (first | apply Kd.R_alloc | apply Kd.R_drewN | apply Kd.R_drew)); exact HO196.out))) (Kd.R_lt (by (with_reducible repeat (first | apply Kd.R_alloc | apply Kd.R_drewN | apply Kd.R_drew)); exact HO204.out))) (Kd.R_lt (by (with_reducible repeat (first | apply Kd.R_alloc | apply Kd.R_drewN | apply Kd.R_drew)); exact HO212.out))) (below_size (by repeat (first | (with_reducible first | exact HB.out | apply below_alloc | apply pw_below_drewN | apply below_drew1) | exact HB.out)))); have n11_ := Aside0.mk (below_step (by repeat (first | (with_reducible first | exact HB.out | apply below_alloc | apply pw_below_drewN | apply below_drew1) | exact HB.out)) hb); clear HO179; clear HO182; clear HO185; clear HO190; clear HO193; clear HO196; clear HO201; clear HO204; clear HO209; clear HO212; clear HB; have HO179 := n0_; have HO182 := n1_; have HO185 := n2_; have HO190 := n3_; have HO193 := n4_; have HO196 := n5_; have HO201 := n6_; have HO204 := n7_; have HO209 := n8_; have HO212 := n9_; have HO216 := n10_; have HB := n11_; clear n0_ n1_ n2_ n3_ n4_ n5_ n6_ n7_ n8_ n9_ n10_ n11_; clear hb ho42; obtain ⟨Ao43, co43, eo43⟩ := Kd.R_slice HO196.out; subst eo43; obtain ⟨Ao44, co44, eo44⟩ := Kd.R_slice HO216.out; subst eo44) | (go_at_call 23; (with_reducible refine (kingpinlaw08_ints.calls k _ _ t194 _ _ y214 true _ ?side1 ?side2 ?side3 ?side4 A12.out).mono ?_); (case side1 => repeat (first | exact (Kd.R_reads' HO196.out).2.2 | (with_reducible refine Kd.C_alloc ?_ _) | (with_reducible refine Kd.C_drewN ?_ _) | (with_reducible refine Kd.C_drew ?_))); (case side2 => exact (Kd.R_reads' HO196.out).2.1); (case side3 => repeat (first | exact (Kd.R_reads' HO216.out).2.2 | (with_reducible refine Kd.C_alloc ?_ _) | (with_reducible refine Kd.C_drewN ?_ _) | (with_reducible refine Kd.C_drew ?_))); (case side4 => exact (Kd.R_reads' HO216.out).2.1); rintro e w' ⟨rfl, ⟨nd, rfl⟩⟩) | ((with_reducible refine gate_dst (N := 52) rfl ?_); (try (refine gate_guard (by rfl) ?_; dsimp only)); refine Kd.R_lit (Kd.int .i64) _ 3 ?hg (N := 52) ?hd (xs := ([0, 1, 3] : List Int)) (inner := [.int .i64 0, .int .i64 1, .int .i64 3]) (ok := fun _ => True) (okp := fun _ => True) ?hr ?hp (fun _ hk => hk) trivial (Below.refl _ _) (Nat.le_refl _) (by simp) ?_; (case hd => rfl); (case hg => rfl); (case hr => first | (go_simp; done) | (go_simp; rfl)); (case hp => exact (Reps.one (show Kd.M (Kd.int .i64) _ _ _ 0 [.int .i64 0] from rfl) (Reps.one (show Kd.M (Kd.int .i64) _ _ _ 1 [.int .i64 1] from rfl) (Reps.one (show Kd.M (Kd.int .i64) _ _ _ 3 [.int .i64 3] from rfl) (Reps.none _ _))))); intro v219 w45 ho46 hb hg_ hnew_; clear hg_ hnew_; (first | rw [← Ny218.out] at ho46 | (simp only [Int.reduceToNat] at ho46; rw [← Ny218.out] at ho46)); have n0_ := Aside0.mk (Kd.R_below (by (with_reducible repeat (first | apply Kd.R_alloc | apply Kd.R_drewN | apply Kd.R_drew)); exact HO179.out) hb); have n1_ := Aside0.mk (Kd.R_below (by (with_reducible repeat (first | apply Kd.R_alloc | apply Kd.R_drewN | apply Kd.R_drew)); exact HO182.out) hb); have n2_ := Aside0.mk (Kd.R_elder' (by (with_reducible repeat (first | apply Kd.R_alloc | apply Kd.R_drewN | apply Kd.R_drew)); exact HO185.out) (Kd.R_base ho46) hb); have n3_ := Aside0.mk (Kd.R_below (by (with_reducible repeat (first | apply Kd.R_alloc | apply Kd.R_drewN | apply Kd.R_drew)); exact HO190.out) hb); have n4_ := Aside0.mk (Kd.R_below (by (with_reducible repeat (first | apply Kd.R_alloc | apply Kd.R_drewN | apply Kd.R_drew)); exact HO193.out) hb); have n5_ := Aside0.mk (Kd.R_elder' (by (with_reducible repeat (first | apply Kd.R_alloc | apply Kd.R_drewN | apply Kd.R_drew)); exact HO196.out) (Kd.R_base ho46) hb); have n6_ := Aside0.mk (Kd.R_below (by (with_reducible repeat (first | apply Kd.R_alloc | apply Kd.R_drewN | apply Kd.R_drew)); exact HO201.out) hb); have n7_ := Aside0.mk (Kd.R_elder' (by (with_reducible repeat (first | apply Kd.R_alloc | apply Kd.R_drewN | apply Kd.R_drew)); exact HO204.out) (Kd.R_base ho46) hb); have n8_ := Aside0.mk (Kd.S_below (by (with_reducible repeat (first | apply Kd.S_alloc | apply Kd.S_drewN | apply Kd.S_drew)); exact HO209.out) hb); have n9_ := Aside0.mk (Kd.R_elder' (by (with_reducible repeat (first | apply Kd.R_alloc | apply Kd.R_drewN | apply Kd.R_drew)); exact HO212.out) (Kd.R_base ho46) hb); have n10_ := Aside0.mk (Kd.R_elder' (by (with_reducible repeat (first | apply Kd.R_alloc | apply Kd.R_drewN | apply Kd.R_drew)); exact HO216.out) (Kd.R_base ho46) hb); have n11_ := Aside0.mk (Kd.R_lower (Kd.R_new' (Kd.R_new' (Kd.R_new' (Kd.R_new' (Kd.R_new' ho46 (Kd.R_lt (by (with_reducible repeat (first | apply Kd.R_alloc | apply Kd.R_drewN | apply Kd.R_drew)); exact HO185.out))) (Kd.R_lt (by (with_reducible repeat (first | apply Kd.R_alloc | apply Kd.R_drewN | apply Kd.R_drew)); exact HO196.out))) (Kd.R_lt (by (with_reducible repeat (first | apply Kd.R_alloc | apply Kd.R_drewN | apply Kd.R_drew)); exact HO204.out))) (Kd.R_lt (by (with_reducible repeat (first | apply Kd.R_alloc | apply Kd.R_drewN | apply Kd.R_drew)); exact HO212.out))) (Kd.R_lt (by (with_reducible repeat (first | apply Kd.R_alloc | apply Kd.R_drewN | apply Kd.R_drew)); exact HO216.out))) (below_size (by repeat (first | (with_reducible first | exact HB.out | apply below_alloc | apply pw_below_drewN | apply below_drew1) | exact HB.out)))); have n12_ := Aside0.mk (below_step (by repeat (first | (with_reducible first | exact HB.out | apply below_alloc | apply pw_below_drewN | apply below_drew1) | exact HB.out)) hb); clear HO179; clear HO182; clear HO185; clear HO190; clear HO193; clear HO196; clear HO201; clear HO204; clear HO209; clear HO212; clear HO216; clear HB; have HO179 := n0_; have HO182 := n1_; have HO185 := n2_; have HO190 := n3_; have HO193 := n4_; have HO196 := n5_; have HO201 := n6_; have HO204 := n7_; have HO209 := n8_; have HO212 := n9_; have HO216 := n10_; have HO220 := n11_; have HB := n12_; clear n0_ n1_ n2_ n3_ n4_ n5_ n6_ n7_ n8_ n9_ n10_ n11_ n12_; clear hb ho46; obtain ⟨Ao47, co47, eo47⟩ := Kd.R_slice HO204.out; subst eo47; obtain ⟨Ao48, co48, eo48⟩ := Kd.R_slice HO220.out; subst eo48) | (go_at_call 23; (with_reducible refine (kingpinlaw08_ints.calls k _ _ t202 _ _ y218 true _ ?side1 ?side2 ?side3 ?side4 A15.out).mono ?_); (case side1 => repeat (first | exact (Kd.R_reads' HO204.out).2.2 | (with_reducible refine Kd.C_alloc ?_ _) | (with_reducible refine Kd.C_drewN ?_ _) | (with_reducible refine Kd.C_drew ?_))); (case side2 => exact (Kd.R_reads' HO204.out).2.1); (case side3 => repeat (first | exact (Kd.R_reads' HO220.out).2.2 | (with_reducible refine Kd.C_alloc ?_ _) | (with_reducible refine Kd.C_drewN ?_ _) | (with_reducible refine Kd.C_drew ?_))); (case side4 => exact (Kd.R_reads' HO220.out).2.1); rintro e w' ⟨rfl, ⟨nd, rfl⟩⟩; obtain ⟨Ao49, co49, eo49⟩ := Kd.S_slice HO209.out; subst eo49) | (go_at_call 31; (with_reducible refine (league_ProveSchedule.calls 4 _ _ t206 3 true _ ?side1 ?side2 A18.out).mono ?_); (case side1 => repeat (first | exact (Kd.S_reads' HO209.out).2.2 | (with_reducible refine Kd.C_alloc ?_ _) | (with_reducible refine Kd.C_drewN ?_ _) | (with_reducible refine Kd.C_drew ?_))); (case side2 => exact (Kd.S_reads' HO209.out).2.1); rintro e w50 ⟨rfl, hb⟩; have n0_ := Aside0.mk (Kd.R_below (by (with_reducible repeat (first | apply Kd.R_alloc | apply Kd.R_drewN | apply Kd.R_drew)); exact HO179.out) hb); have n1_ := Aside0.mk (Kd.R_below (by (with_reducible repeat (first | apply Kd.R_alloc | apply Kd.R_drewN | apply Kd.R_drew)); exact HO182.out) hb); have n2_ := Aside0.mk (Kd.R_below (by (with_reducible repeat (first | apply Kd.R_alloc | apply Kd.R_drewN | apply Kd.R_drew)); exact HO185.out) hb); have n3_ := Aside0.mk (Kd.R_below (by (with_reducible repeat (first | apply Kd.R_alloc | apply Kd.R_drewN | apply Kd.R_drew)); exact HO190.out) hb); have n4_ := Aside0.mk (Kd.R_below (by (with_reducible repeat (first | apply Kd.R_alloc | apply Kd.R_drewN | apply Kd.R_drew)); exact HO193.out) hb); have n5_ := Aside0.mk (Kd.R_below (by (with_reducible repeat (first | apply Kd.R_alloc | apply Kd.R_drewN | apply Kd.R_drew)); exact HO196.out) hb); have n6_ := Aside0.mk (Kd.R_below (by (with_reducible repeat (first | apply Kd.R_alloc | apply Kd.R_drewN | apply Kd.R_drew)); exact HO201.out) hb); have n7_ := Aside0.mk (Kd.R_below (by (with_reducible repeat (first | apply Kd.R_alloc | apply Kd.R_drewN | apply Kd.R_drew)); exact HO204.out) hb); have n8_ := Aside0.mk (Kd.S_below (by (with_reducible repeat (first | apply Kd.S_alloc | apply Kd.S_drewN | apply Kd.S_drew)); exact HO209.out) hb); have n9_ := Aside0.mk (Kd.R_below (by (with_reducible repeat (first | apply Kd.R_alloc | apply Kd.R_drewN | apply Kd.R_drew)); exact HO212.out) hb); have n10_ := Aside0.mk (Kd.R_below (by (with_reducible repeat (first | apply Kd.R_alloc | apply Kd.R_drewN | apply Kd.R_drew)); exact HO216.out) hb); have n11_ := Aside0.mk (Kd.R_below (by (with_reducible repeat (first | apply Kd.R_alloc | apply Kd.R_drewN | apply Kd.R_drew)); exact HO220.out) hb); have n12_ := Aside0.mk (below_step (by repeat (first | (with_reducible first | exact HB.out | apply below_alloc | apply pw_below_drewN | apply below_drew1) | exact HB.out)) hb); clear HO179; clear HO182; clear HO185; clear HO190; clear HO193; clear HO196; clear HO201; clear HO204; clear HO209; clear HO212; clear HO216; clear HO220; clear HB; have HO179 := n0_; have HO182 := n1_; have HO185 := n2_; have HO190 := n3_; have HO193 := n4_; have HO196 := n5_; have HO201 := n6_; have HO204 := n7_; have HO209 := n8_; have HO212 := n9_; have HO216 := n10_; have HO220 := n11_; have HB := n12_; clear n0_ n1_ n2_ n3_ n4_ n5_ n6_ n7_ n8_ n9_ n10_ n11_ n12_; (try clear hb); (try clear hb2); (try clear hk); (try clear hi)) | (go_at_call 31; (with_reducible refine (league_ProveSchedule.calls 4 _ _ t206 2 t223 _ ?side1 ?side2 A20.out).mono ?_); (case side1 => repeat (first | exact (Kd.S_reads' HO209.out).2.2 | (with_reducible refine Kd.C_alloc ?_ _) | (with_reducible refine Kd.C_drewN ?_ _) | (with_reducible refine Kd.C_drew ?_))); (case side2 => exact (Kd.S_reads' HO209.out).2.1); rintro e w51 ⟨rfl, hb⟩; have n0_ := Aside0.mk (Kd.R_below (by (with_reducible repeat (first | apply Kd.R_alloc | apply Kd.R_drewN | apply Kd.R_drew)); exact HO179.out) hb); have n1_ := Aside0.mk (Kd.R_below (by (with_reducible repeat (first | apply Kd.R_alloc | apply Kd.R_drewN | apply Kd.R_drew)); exact HO182.out) hb); have n2_ := Aside0.mk (Kd.R_below (by (with_reducible repeat (first | apply Kd.R_alloc | apply Kd.R_drewN | apply Kd.R_drew)); exact HO185.out) hb); have n3_ := Aside0.mk (Kd.R_below (by (with_reducible repeat (first | apply Kd.R_alloc | apply Kd.R_drewN | apply Kd.R_drew)); exact HO190.out) hb); have n4_ := Aside0.mk (Kd.R_below (by (with_reducible repeat (first | apply Kd.R_alloc | apply Kd.R_drewN | apply Kd.R_drew)); exact HO193.out) hb); have n5_ := Aside0.mk (Kd.R_below (by (with_reducible repeat (first | apply Kd.R_alloc | apply Kd.R_drewN | apply Kd.R_drew)); exact HO196.out) hb); have n6_ := Aside0.mk (Kd.R_below (by (with_reducible repeat (first | apply Kd.R_alloc | apply Kd.R_drewN | apply Kd.R_drew)); exact HO201.out) hb); have n7_ := Aside0.mk (Kd.R_below (by (with_reducible repeat (first | apply Kd.R_alloc | apply Kd.R_drewN | apply Kd.R_drew)); exact HO204.out) hb); have n8_ := Aside0.mk (Kd.S_below (by (with_reducible repeat (first | apply Kd.S_alloc | apply Kd.S_drewN | apply Kd.S_drew)); exact HO209.out) hb); have n9_ := Aside0.mk (Kd.R_below (by (with_reducible repeat (first | apply Kd.R_alloc | apply Kd.R_drewN | apply Kd.R_drew)); exact HO212.out) hb); have n10_ := Aside0.mk (Kd.R_below (by (with_reducible repeat (first | apply Kd.R_alloc | apply Kd.R_drewN | apply Kd.R_drew)); exact HO216.out) hb); have n11_ := Aside0.mk (Kd.R_below (by (with_reducible repeat (first | apply Kd.R_alloc | apply Kd.R_drewN | apply Kd.R_drew)); exact HO220.out) hb); have n12_ := Aside0.mk (below_step (by repeat (first | (with_reducible first | exact HB.out | apply below_alloc | apply pw_below_drewN | apply below_drew1) | exact HB.out)) hb); clear HO179; clear HO182; clear HO185; clear HO190; clear HO193; clear HO196; clear HO201; clear HO204; clear HO209; clear HO212; clear HO216; clear HO220; clear HB; have HO179 := n0_; have HO182 := n1_; have HO185 := n2_; have HO190 := n3_; have HO193 := n4_; have HO196 := n5_; have HO201 := n6_; have HO204 := n7_; have HO209 := n8_; have HO212 := n9_; have HO216 := n10_; have HO220 := n11_; have HB := n12_; clear n0_ n1_ n2_ n3_ n4_ n5_ n6_ n7_ n8_ n9_ n10_ n11_ n12_; (try clear hb); (try clear hb2); (try clear hk); (try clear hi)))
         go_ret
         exact ⟨by first | rfl | (simp [errW_none, errW_some] <;> rfl) | (simp [*, errW_none, errW_some] <;> rfl), by repeat (first | (with_reducible first | exact HB.out | apply below_alloc | apply pw_below_drewN | apply below_drew1) | exact HB.out)⟩
        ·
         rw [if_neg c19] at H
         exact absurd (H.trans (congrArg some hr)) (by simp)
       ·
        rw [if_neg c17] at H
        exact absurd (H.trans (congrArg some hr)) (by simp)
      ·
       rw [if_neg c16] at H
       exact absurd (H.trans (congrArg some hr)) (by simp)
     ·
      rw [if_neg c14] at H
      exact absurd (H.trans (congrArg some hr)) (by simp)
    ·
     rw [if_neg c13] at H
     exact absurd (H.trans (congrArg some hr)) (by simp)
   ·
    rw [if_neg c11] at H
    exact absurd (H.trans (congrArg some hr)) (by simp)
  ·
   rw [if_neg c10] at H
   exact absurd (H.trans (congrArg some hr)) (by simp)
 ·
  rw [if_neg c8] at H
  exact absurd (H.trans (congrArg some hr)) (by simp)
set_option maxRecDepth 100000 in
theorem awake_40 : awakeF 40 = some true := by kernel_rfl
def kingpinlaw08_awake.f : Option Bool := some true
theorem kingpinlaw08_awake.calls (r : Bool) (w : World) (h : kingpinlaw08_awake.f = some r) : Calls Try.prog 16 #[] w fun e w' => e = .returned (.bool r) ∧ Below w.heap.size w w' := by
 obtain rfl := Option.some.inj h
 exact awake_calls 40 true w rfl awake_40
end Go.Proofs.Ytmnamkcjldaoeaa.PAll
namespace Go.Proofs.Ytmnamkcjldaoeaa.PAll
open Go.RowKit Go.Proofs.YtmnamkcjldaoeaaW.PrintWords Go.Proofs.YtmnamkcjldaoeaaW.PrintLast Go.Proofs.YtmnamkcjldaoeaaW.PrintMore
set_option linter.unusedVariables false
set_option linter.unusedSimpArgs false
theorem awake_ev : Ev (fun _ => kingpinlaw08_awake.f) true := Ev.now true
theorem wrapN (n : Nat) (h : n < 4611686018427387904) : wrap64 ((n : Int) + 1) = ((n + 1 : Nat) : Int) := by
 rw [IntWalk.wrap64_in _ ⟨by omega, by omega⟩]
 omega
theorem dropI (l : List Int) (i : Nat) (h : i < l.length) : l.drop i = rd l (i : Int) :: l.drop (i + 1) := by
 rw [List.drop_eq_getElem_cons h]
 congr 1
 unfold rd
 rw [Int.toNat_natCast, List.getD_eq_getElem?_getD, List.getElem?_eq_getElem h, Option.getD_some]
theorem League_ev (a : Int) (l : List S70) (hl : l.length ≤ 1000) : Ev (fun k => kingpinlaw08_League.f k a l) (a, l.map toG) := by
 have main : ∀ (d i : Nat) (acc : List S85), l.length - i = d → i ≤ l.length → acc.length = i → Ev (fun k => kingpinlaw08_League.l0 k (i : Int) a l a acc) (a, acc ++ (l.drop i).map toG) := by
  intro d
  induction d with
  | zero =>
   intro i acc hd hi ha
   obtain rfl : i = l.length := by omega
   refine Ev.step (f := fun _ => some (a, acc)) (fun k => ?_) ?_
   ·
    simp only [kingpinlaw08_League.l0]
    rw [if_neg (by omega)]
   ·
    simpa using Ev.now (a, acc)
  | succ d ih =>
   intro i acc hd hi ha
   refine Ev.step (f := fun k => kingpinlaw08_League.l0 k ((i + 1 : Nat) : Int) a l a (acc ++ [toG (rd_T70 l (i : Int))])) (fun k => ?_) ?_
   ·
    simp only [kingpinlaw08_League.l0]
    rw [if_pos (by omega), if_pos (by omega), if_pos (by omega), wrapN i (by omega)]
    rfl
   ·
    have := ih (i + 1) (acc ++ [toG (rd_T70 l (i : Int))]) (by omega) (by omega) (by simp [ha])
    rw [drop70 l i (by omega), List.map_cons]
    simpa using this
 have := main l.length 0 [] rfl (Nat.zero_le _) rfl
 rw [List.nil_append, List.drop_zero] at this
 exact this
theorem ints_self (l : List Int) (hl : l.length ≤ 1000000) : Ev (fun k => kingpinlaw08_ints.f k l l) true := by
 have main : ∀ (d i : Nat), l.length - i = d → i ≤ l.length → Ev (fun k => kingpinlaw08_ints.l0 k l l (i : Int)) true := by
  intro d
  induction d with
  | zero =>
   intro i hd hi
   obtain rfl : i = l.length := by omega
   refine Ev.step (f := fun _ => some true) (fun k => ?_) (Ev.now _)
   simp only [kingpinlaw08_ints.l0]
   rw [if_neg (by omega)]
  | succ d ih =>
   intro i hd hi
   refine Ev.step (fun k => ?_) (ih (i + 1) (by omega) (by omega))
   simp only [kingpinlaw08_ints.l0]
   rw [if_pos (by omega), if_pos (by omega), if_pos (by omega), if_pos trivial, wrapN i (by omega)]
 unfold kingpinlaw08_ints.f
 refine Ev.congr (fun k => if_pos rfl) (main l.length 0 rfl (Nat.zero_le _))
theorem Has_ev (g : List Int) (v : Int) (hl : g.length ≤ 1000000) : Ev (fun k => kingpinref08_Has.f k g v) (g.contains v) := by
 have main : ∀ (d i : Nat), g.length - i = d → i ≤ g.length → Ev (fun k => kingpinref08_Has.l0 k g v (i : Int)) ((g.drop i).contains v) := by
  intro d
  induction d with
  | zero =>
   intro i hd hi
   obtain rfl : i = g.length := by omega
   refine Ev.step (f := fun _ => some false) (fun k => ?_) ?_
   ·
    simp only [kingpinref08_Has.l0]
    rw [if_neg (by omega)]
   ·
    simpa using Ev.now false
  | succ d ih =>
   intro i hd hi
   have ih1 := ih (i + 1) (by omega) (by omega)
   rw [dropI g i (by omega), List.contains_cons]
   obtain ⟨x, hx⟩ : ∃ x, rd g (i : Int) = x := ⟨_, rfl⟩
   rw [hx]
   have hbody : ∀ k, kingpinref08_Has.l0 (k + 1) g v (i : Int) = if x = v then some true else kingpinref08_Has.l0 k g v ((i + 1 : Nat) : Int) := by
    intro k
    simp only [kingpinref08_Has.l0]
    rw [if_pos (by omega), if_pos (by omega), wrapN i (by omega), hx]
   refine Ev.step hbody ?_
   by_cases hg : x = v
   ·
    subst hg
    simp only [if_true, beq_self_eq_true, Bool.true_or]
    exact Ev.now _
   ·
    have : (v == x) = false := by simpa using fun e => hg e.symm
    simp only [hg, if_false, this, Bool.false_or]
    exact ih1
 have := main g.length 0 rfl (Nat.zero_le _)
 exact this
theorem Gives_eq (x : S70) : kingpinref08_Gives.f x.f0 x.f1 x.f2 x.f3 x.f4 = some (givesF (toG x)) := by
 unfold kingpinref08_Gives.f givesF toG
 split
 ·
  rfl
 ·
  split
  ·
   rfl
  ·
   split <;> rfl
def stepN (f : Nat) (t : Int) (group : List Int) (s : Int) (g : S85) : Int := (sidesG t g).foldl (fun s p => wrap64 (s + ruleVal f p.2 group)) s
theorem numF_step (f : Nat) (t : Int) (l : List S85) (group : List Int) : numF f (sidesOf t l) group = l.foldl (stepN f t group) 0 := by
 unfold numF sidesOf
 rw [List.foldl_flatMap]
 rfl
theorem wrap_range (n : Int) : -9223372036854775808 ≤ wrap64 n ∧ wrap64 n ≤ 9223372036854775807 := by
 unfold wrap64
 omega
theorem sidesG_of (t : Int) (g : S85) (h : g.f0 ≠ g.f1) : sidesG t g = if g.f1 = t then [(g, ⟨g.f0, (givesF g).2, g.f3⟩)] else if g.f0 = t then [(g, ⟨g.f1, (givesF g).1, g.f2⟩)] else [] := by
 unfold sidesG
 by_cases h1 : g.f1 = t
 ·
  rw [if_pos h1, if_pos h1, if_neg (fun h0 => h (h0.trans h1.symm))]
  rfl
 ·
  rw [if_neg h1, if_neg h1, List.append_nil]
def inR (s : Int) : Prop := -9223372036854775808 ≤ s ∧ s ≤ 9223372036854775807
theorem ruleFn_1 : ruleFn 1 = 88 := rfl
theorem Number_ev (a : Int) (l : List S70) (code t : Int) (group : List Int) (hc : 1 ≤ code ∧ code ≤ 4) (hl : l.length ≤ 1000) (hg : group.length ≤ 1000000) (hok : ∀ x ∈ l, x.f0 ≠ x.f1) :
  Ev (fun k => kingpinref08_Number.f k a l code t group) (numF (ruleFn code) (sidesOf t (l.map toG)) group) := by
 rw [numF_step]
 have main : ∀ (d i : Nat) (s : Int), l.length - i = d → i ≤ l.length → inR s → Ev (fun k => kingpinref08_Number.l0 k code t group s (i : Int) a l) (((l.drop i).map toG).foldl (stepN (ruleFn code) t group) s) := by
  intro d
  induction d with
  | zero =>
   intro i s hd hi hs
   obtain rfl : i = l.length := by omega
   refine Ev.step (f := fun _ => some s) (fun k => ?_) ?_
   ·
    simp only [kingpinref08_Number.l0]
    rw [if_neg (by omega)]
   ·
    simpa using Ev.now s
  | succ d ih =>
   intro i s hd hi hs
   have ih1 := fun s hs => ih (i + 1) s (by omega) (by omega) hs
   have hm : rd_T70 l (i : Int) ∈ l := by
    have := drop70 l i (by omega)
    exact List.mem_of_mem_drop (i := i) (by rw [this]; exact List.mem_cons_self)
   have hxo := hok _ hm
   rw [drop70 l i (by omega), List.map_cons, List.foldl_cons]
   obtain ⟨x, hx⟩ : ∃ x, rd_T70 l (i : Int) = x := ⟨_, rfl⟩
   rw [hx] at hxo ⊢
   have hbody : ∀ k, kingpinref08_Number.l0 (k + 1) code t group s (i : Int) a l =
     if x.f1 = t then kingpinref08_Number.j1 k code t group s (i : Int) (givesF (toG x)).2 x.f3 x.f0 a l else if x.f0 = t then kingpinref08_Number.j1 k code t group s (i : Int) (givesF (toG x)).1 x.f2 x.f1 a l else kingpinref08_Number.l0 k code t group s ((i + 1 : Nat) : Int) a l := by
    intro k
    simp only [kingpinref08_Number.l0]
    rw [if_pos (by omega), if_pos (by omega), wrapN i (by omega), hx, Gives_eq, Option.bind_some]
   have hj : ∀ (o p q : Int) (y : SideT), y = ⟨q, o, p⟩ → Ev (fun k => kingpinref08_Number.j1 k code t group s (i : Int) o p q a l) (((l.drop (i + 1)).map toG).foldl (stepN (ruleFn code) t group) (wrap64 (s + ruleVal (ruleFn code) y group))) := by
    intro o p q y hy
    subst hy
    have hc4 : code = 1 ∨ code = 2 ∨ code = 3 ∨ code = 4 := by omega
    rcases hc4 with rfl | rfl | rfl | rfl
    ·
     refine Ev.step (fun k => ?_) (ih1 (wrap64 (s + o)) (wrap_range _))
     simp only [kingpinref08_Number.j1]
     rw [if_pos trivial, wrapN i (by omega)]
    ·
     refine Ev.step (fun k => ?_) (ih1 (wrap64 (s + wrap64 (Int.tdiv o 2))) (wrap_range _))
     simp only [kingpinref08_Number.j1]
     rw [if_neg (by decide), if_pos trivial, wrapN i (by omega)]
    ·
     refine Ev.step (f := fun k => (kingpinref08_Has.f k group q).bind fun b => if b = true then kingpinref08_Number.l0 k 3 t group (wrap64 (s + o)) ((i + 1 : Nat) : Int) a l else kingpinref08_Number.l0 k 3 t group s ((i + 1 : Nat) : Int) a l) (fun k => ?_) ?_
     ·
      simp only [kingpinref08_Number.j1]
      rw [if_neg (by decide), if_neg (by decide), if_pos trivial, wrapN i (by omega)]
     ·
      refine Ev.bind (Has_ev group q hg) ?_
      rw [show ruleVal (ruleFn 3) ⟨q, o, p⟩ group = if group.contains q = true then o else 0 from rfl]
      cases hb : group.contains q with
      | true => exact ih1 (wrap64 (s + o)) (wrap_range _)
      | false =>
       have hs0 : wrap64 (s + 0) = s := by rw [Int.add_zero]; exact IntWalk.wrap64_in _ hs
       rw [if_neg (by decide), hs0]
       exact ih1 s hs
    ·
     refine Ev.step (fun k => ?_) (ih1 (wrap64 (s + p)) (wrap_range _))
     simp only [kingpinref08_Number.j1]
     rw [if_neg (by decide), if_neg (by decide), if_neg (by decide), if_pos trivial, wrapN i (by omega)]
   refine Ev.step hbody ?_
   have hst : stepN (ruleFn code) t group s (toG x) = if x.f1 = t then wrap64 (s + ruleVal (ruleFn code) ⟨x.f0, (givesF (toG x)).2, x.f3⟩ group) else if x.f0 = t then wrap64 (s + ruleVal (ruleFn code) ⟨x.f1, (givesF (toG x)).1, x.f2⟩ group) else s := by
    unfold stepN
    rw [sidesG_of t (toG x) hxo]
    show List.foldl _ s (if x.f1 = t then _ else if x.f0 = t then _ else _) = _
    split
    ·
     rfl
    ·
     split <;> rfl
   rw [hst]
   by_cases c1 : x.f1 = t
   ·
    simp only [if_pos c1]
    exact hj _ _ _ _ rfl
   ·
    by_cases c0 : x.f0 = t
    ·
     simp only [if_neg c1, if_pos c0]
     exact hj _ _ _ _ rfl
    ·
     simp only [if_neg c1, if_neg c0]
     exact ih1 s hs
 have := main l.length 0 0 rfl (Nat.zero_le _) ⟨by decide, by decide⟩
 rw [List.drop_zero] at this
 exact this
theorem gives_range (g : S85) : (givesF g).1 ∈ ([0, 1, 2] : List Int) ∧ (givesF g).2 ∈ ([0, 1, 2] : List Int) := by
 unfold givesF
 split
 ·
  simp
 ·
  split
  ·
   simp
  ·
   split <;> simp
end Go.Proofs.Ytmnamkcjldaoeaa.PAll
namespace Go.Proofs.Ytmnamkcjldaoeaa.PAll
open Go.RowKit Go.Proofs.YtmnamkcjldaoeaaW.PrintWords Go.Proofs.YtmnamkcjldaoeaaW.PrintLast Go.Proofs.YtmnamkcjldaoeaaW.PrintMore
set_option linter.unusedVariables false
set_option linter.unusedSimpArgs false
structure Give where
 a : Int
 x : Int
 b : Int
 y : Int
def Give.ok (m : Nat) (t : Give) : Prop := 0 ≤ t.a ∧ t.a < m ∧ 0 ≤ t.b ∧ t.b < m ∧ 0 ≤ t.x ∧ t.x ≤ 2 ∧ 0 ≤ t.y ∧ t.y ≤ 2
def step2 (s : List Int) (t : Give) : List Int := addAt (addAt s t.a t.x) t.b t.y
def Give.to (t : Give) (i : Nat) : Int := (if t.a = i then t.x else 0) + (if t.b = i then t.y else 0)
def sumTo (T : List Give) (i : Nat) : Int := (T.map fun t => t.to i).sum
theorem step2_len (s : List Int) (t : Give) : (step2 s t).length = s.length := by simp [step2, addAt]
theorem addAt_get (s : List Int) (j v : Int) (i : Nat) (h0 : 0 ≤ j) (hj : j < s.length) (B : Int) (hs : 0 ≤ s.getD j.toNat 0 ∧ s.getD j.toNat 0 ≤ B) (hB : B ≤ 1000000000) (hv : 0 ≤ v ∧ v ≤ 2) :
  (addAt s j v).getD i 0 = s.getD i 0 + (if j = i then v else 0) := by
 unfold addAt
 by_cases hij : j = i
 ·
  have : j.toNat = i := by omega
  subst this
  rw [if_pos hij, List.getD_eq_getElem?_getD, List.getElem?_set_self (by omega), Option.getD_some, IntWalk.wrap64_in _ ⟨by omega, by omega⟩]
 ·
  rw [if_neg hij, List.getD_eq_getElem?_getD, List.getElem?_set_ne (by omega), ← List.getD_eq_getElem?_getD, Int.add_zero]
theorem Give.to_range {m : Nat} {t : Give} (h : t.ok m) (i : Nat) : 0 ≤ t.to i ∧ t.to i ≤ 4 := by
 obtain ⟨_, _, _, _, h5, h6, h7, h8⟩ := h
 unfold Give.to
 split <;> split <;> omega
theorem fold2_get : ∀ (T : List Give) (s : List Int) (B : Int), (∀ t ∈ T, t.ok s.length) → (∀ i, 0 ≤ s.getD i 0 ∧ s.getD i 0 ≤ B) → B + 4 * T.length ≤ 1000000 → ∀ i : Nat, (T.foldl step2 s).getD i 0 = s.getD i 0 + sumTo T i
 | [], s, B, _, _, _, i => by simp [sumTo]
 | t :: T, s, B, hT, hs, hB, i => by
  rw [List.length_cons] at hB
  have ht := hT t List.mem_cons_self
  obtain ⟨o1, o2, o3, o4, o5, o6, o7, o8⟩ := ht
  have e1 : ∀ i : Nat, (addAt s t.a t.x).getD i 0 = s.getD i 0 + (if t.a = i then t.x else 0) := fun i => addAt_get s t.a t.x i o1 o2 B (hs _) (by omega) ⟨o5, o6⟩
  have hl1 : (addAt s t.a t.x).length = s.length := by simp [addAt]
  have e2 : ∀ i : Nat, (step2 s t).getD i 0 = s.getD i 0 + t.to i := by
   intro i
   have hb := e1 t.b.toNat
   have hs2 := hs t.b.toNat
   unfold step2 Give.to
   rw [addAt_get (addAt s t.a t.x) t.b t.y i o3 (by rw [hl1]; exact o4) (B + 2) (by rw [hb]; split <;> omega) (by omega) ⟨o7, o8⟩, e1 i]
   omega
  rw [List.foldl_cons, fold2_get T (step2 s t) (B + 4) (fun u hu => by rw [step2_len]; exact hT u (List.mem_cons_of_mem _ hu)) (fun i => by
   rw [e2]
   have := hs i
   have := Give.to_range (hT t List.mem_cons_self) i
   omega) (by push_cast at hB; omega), e2]
  simp only [sumTo, List.map_cons, List.sum_cons]
  omega
def gGive (g : S85) : Give := ⟨g.f0, (givesF g).1, g.f1, (givesF g).2⟩
theorem openG_cons (g : S85) (l : List S85) : openG (g :: l) = if g.f4 = true then g :: openG l else openG l := by
 unfold openG
 rw [List.filter_cons]
theorem gGive_ok {n : Int} {m : Nat} {g : S85} (h : gameB n g = true) (hm : n ≤ m) : (gGive g).ok m := by
 obtain ⟨_, _, ⟨h1, h2⟩, ⟨h3, h4⟩, _, _⟩ := (gameB_iff n g).1 h
 have := gives_range g
 simp only [List.mem_cons, List.not_mem_nil, or_false] at this
 unfold Give.ok gGive
 refine ⟨h1, by show g.f0 < m; omega, h3, by show g.f1 < m; omega, ?_, ?_, ?_, ?_⟩
 ·
  show 0 ≤ (givesF g).1; omega
 ·
  show (givesF g).1 ≤ 2; omega
 ·
  show 0 ≤ (givesF g).2; omega
 ·
  show (givesF g).2 ≤ 2; omega
theorem rep_get (n i : Nat) : (List.replicate n (0 : Int)).getD i 0 = 0 := by
 rw [List.getD_eq_getElem?_getD]
 by_cases h : i < n
 ·
  simp [List.getElem?_replicate, h]
 ·
  simp [List.getElem?_replicate, h]
end Go.Proofs.Ytmnamkcjldaoeaa.PAll
namespace Go.Proofs.Ytmnamkcjldaoeaa.PAll
open Go.RowKit Go.Proofs.YtmnamkcjldaoeaaW.PrintWords Go.Proofs.YtmnamkcjldaoeaaW.PrintLast Go.Proofs.YtmnamkcjldaoeaaW.PrintMore
set_option linter.unusedVariables false
set_option linter.unusedSimpArgs false
set_option linter.unusedSectionVars false
theorem sums_get {n : Int} {l : List S85} (hc : checkF n l = 0) (i : Nat) : (sumsF l).getD i 0 = sumTo (l.map gGive) i := by
 obtain ⟨h20, n2, n6, hok⟩ := check_ok hc
 have e1 : sumsF l = (l.map gGive).foldl step2 (List.replicate 6 0) := by
  unfold sumsF
  rw [List.foldl_map]
  rfl
 rw [e1, fold2_get _ (List.replicate 6 0) 0 (fun t ht => by
  obtain ⟨g, hg, rfl⟩ := List.mem_map.1 ht
  rw [List.length_replicate]
  exact gGive_ok (hok g hg) (by omega)) (fun i => by rw [rep_get]; omega) (by rw [List.length_map]; omega), rep_get]
 omega
theorem num_sum {n : Int} (t : Nat) : ∀ (l : List S85) (s : Int), (∀ g ∈ l, gameB n g = true) → 0 ≤ s → s + 4 * l.length ≤ 1000000 → l.foldl (stepN 88 (t : Int) []) s = s + sumTo (l.map gGive) t
 | [], s, _, _, _ => by simp [sumTo]
 | g :: l, s, hg, h0, hB => by
  rw [List.length_cons] at hB
  have hok := hg g List.mem_cons_self
  have hne := ((gameB_iff n g).1 hok).2.2.2.2.1
  have hr := gives_range g
  simp only [List.mem_cons, List.not_mem_nil, or_false] at hr
  have hst : stepN 88 (t : Int) [] s g = s + (gGive g).to t := by
   unfold stepN Give.to gGive
   rw [sidesG_of _ g hne]
   by_cases c1 : g.f1 = t
   ·
    have c0 : ¬ g.f0 = t := fun h => hne (h.trans c1.symm)
    rw [if_pos c1, if_neg c0, if_pos c1]
    show wrap64 (s + (givesF g).2) = s + (0 + (givesF g).2)
    rw [IntWalk.wrap64_in _ ⟨by omega, by omega⟩]
    omega
   ·
    rw [if_neg c1, if_neg c1]
    by_cases c0 : g.f0 = t
    ·
     rw [if_pos c0, if_pos c0]
     show wrap64 (s + (givesF g).1) = s + ((givesF g).1 + 0)
     rw [IntWalk.wrap64_in _ ⟨by omega, by omega⟩]
     omega
    ·
     rw [if_neg c0, if_neg c0]
     show s = _
     omega
  have ht := Give.to_range (gGive_ok hok (m := n.toNat) (by have := ((gameB_iff n g).1 hok).2.2.1; omega)) t
  rw [List.foldl_cons, hst, num_sum t l _ (fun x hx => hg x (List.mem_cons_of_mem _ hx)) (by omega) (by push_cast at hB; omega)]
  simp only [sumTo, List.map_cons, List.sum_cons]
  omega
theorem num_sums {n : Int} {l : List S85} (hc : checkF n l = 0) (t : Int) (h0 : 0 ≤ t) : numF (ruleFn 1) (sidesOf t l) [] = (sumsF l).getD t.toNat 0 := by
 obtain ⟨h20, n2, n6, hok⟩ := check_ok hc
 rw [sums_get hc, ruleFn_1, numF_step]
 have := num_sum t.toNat l 0 hok (Int.le_refl _) (by omega)
 rw [show ((t.toNat : Nat) : Int) = t from by omega] at this
 rw [this]
 omega
theorem openG_fold (f : Int → S85 → Int) : ∀ (l : List S85) (s : Int), (openG l).foldl f s = l.foldl (fun y g => if g.f4 = true then f y g else y) s
 | [], s => rfl
 | g :: l, s => by
  rw [openG_cons, List.foldl_cons]
  by_cases h : g.f4 = true
  ·
   rw [if_pos h, if_pos h, List.foldl_cons, openG_fold f l]
  ·
   rw [if_neg h, if_neg h, openG_fold f l]
def okI (n t : Int) (xs : List Int) (i : Nat) : Bool := (decide (0 ≤ xs.getD i 0) && decide (xs.getD i 0 < n)) && (!decide (xs.getD i 0 = t) && (decide (i = 0) || decide (xs.getD (i - 1) 0 < xs.getD i 0)))
def okFrom (n t : Int) (xs : List Int) : Nat → Nat → Bool
 | _, 0 => true
 | i, d + 1 => okI n t xs i && okFrom n t xs (i + 1) d
theorem okFrom_iff (n t : Int) (xs : List Int) : ∀ (d i : Nat), okFrom n t xs i d = true ↔ ∀ j, i ≤ j → j < i + d → okI n t xs j = true
 | 0, i => ⟨fun _ j h1 h2 => by omega, fun _ => rfl⟩
 | d + 1, i => by
  rw [show okFrom n t xs i (d + 1) = (okI n t xs i && okFrom n t xs (i + 1) d) from rfl, Bool.and_eq_true, okFrom_iff n t xs d (i + 1)]
  constructor
  ·
   rintro ⟨h1, h2⟩ j hj1 hj2
   rcases Nat.eq_or_lt_of_le hj1 with rfl | hj
   ·
    exact h1
   ·
    exact h2 j hj (by omega)
  ·
   intro h
   exact ⟨h i (Nat.le_refl _) (by omega), fun j hj1 hj2 => h j (by omega) (by omega)⟩
theorem rd_getD (xs : List Int) (i : Nat) : rd xs (i : Int) = xs.getD i 0 := by unfold rd; rw [Int.toNat_natCast]
section
variable (n : Int) (l : List S70) (hc : checkF n (l.map toG) = 0)
include hc
theorem ok70 : 2 ≤ n ∧ n ≤ 6 ∧ l.length ≤ 20 ∧ ∀ x ∈ l, x.f0 ≠ x.f1 := by
 obtain ⟨h20, n2, n6, hok⟩ := check_ok hc
 rw [List.length_map] at h20
 exact ⟨n2, n6, h20, fun x hx => ((gameB_iff n (toG x)).1 (hok _ (List.mem_map.2 ⟨x, hx, rfl⟩))).2.2.2.2.1⟩
theorem Num1_ev (t : Int) (h0 : 0 ≤ t) : Ev (fun k => kingpinref08_Number.f k n l 1 t []) ((sumsF (l.map toG)).getD t.toNat 0) := by
 obtain ⟨n2, n6, h20, hne⟩ := ok70 n l hc
 rw [← num_sums hc t h0]
 exact Number_ev n l 1 t [] ⟨by decide, by decide⟩ (by omega) (by simp) hne
theorem Reach_ev (t : Int) (h0 : 0 ≤ t) : Ev (fun k => kingpinref08_Reach.f k n l t) (reachF (l.map toG) t) := by
 obtain ⟨n2, n6, h20, hne⟩ := ok70 n l hc
 unfold kingpinref08_Reach.f reachF
 refine Ev.bind (Num1_ev n l hc t h0) ?_
 rw [openG_fold]
 have main : ∀ (d i : Nat) (s : Int), l.length - i = d → i ≤ l.length → Ev (fun k => kingpinref08_Reach.l0 k t s (i : Int) n l) (((l.drop i).map toG).foldl (fun y g => if g.f4 = true then reachStep t y g else y) s) := by
  intro d
  induction d with
  | zero =>
   intro i s hd hi
   obtain rfl : i = l.length := by omega
   rw [List.drop_length]
   refine Ev.step (f := fun _ => some s) (fun k => ?_) (Ev.now _)
   simp only [kingpinref08_Reach.l0]
   rw [if_neg (by omega)]
  | succ d ih =>
   intro i s hd hi
   rw [drop70 l i (by omega), List.map_cons, List.foldl_cons]
   obtain ⟨x, hx⟩ : ∃ x, rd_T70 l (i : Int) = x := ⟨_, rfl⟩
   rw [hx]
   refine Ev.step (fun k => ?_) (ih (i + 1) _ (by omega) (by omega))
   simp only [kingpinref08_Reach.l0]
   rw [if_pos (by omega), if_pos (by omega), hx, wrapN i (by omega)]
   unfold reachStep toG
   by_cases h4 : x.f4 = true
   ·
    rw [if_pos h4]
    simp only [h4, if_true]
    by_cases ha : x.f0 = t
    ·
     rw [if_pos ha, if_pos (Or.inl ha)]
    ·
     by_cases hb : x.f1 = t
     ·
      rw [if_neg ha, if_pos hb, if_pos (Or.inr hb)]
     ·
      rw [if_neg ha, if_neg hb, if_neg (fun h => h.elim ha hb)]
   ·
    rw [if_neg h4]
    simp only [h4, if_false, Bool.false_eq_true]
 have := main l.length 0 ((sumsF (l.map toG)).getD t.toNat 0) rfl (Nat.zero_le _)
 rw [List.drop_zero] at this
 exact this
end
end Go.Proofs.Ytmnamkcjldaoeaa.PAll
namespace Go.Proofs.Ytmnamkcjldaoeaa.PAll
open Go.RowKit Go.Proofs.YtmnamkcjldaoeaaW.PrintWords Go.Proofs.YtmnamkcjldaoeaaW.PrintLast Go.Proofs.YtmnamkcjldaoeaaW.PrintMore
set_option linter.unusedVariables false
set_option linter.unusedSimpArgs false
def kingpinref08_RulesOut.f (a0_0 : Int) (l0_1 : List (S70)) (a1 : Int) (l2 : List Int) : Option Bool :=
 if checkF a0_0 (l0_1.map toG) = 0 ∧ 0 ≤ a1 ∧ l2.length ≤ 1000 then some (okFrom a0_0 a1 l2 0 l2.length && ruledF (reachF (l0_1.map toG) a1) (sumsF (l0_1.map toG)) (openG (l0_1.map toG)) l2) else none
theorem list_way (n t : Int) (xs : List Int) (i : Nat) (n2 : 2 ≤ n) (n6 : n ≤ 6) : ∃ b0 e q, Hid (kingpinref08_In.f (xs.getD i 0) 0 (n - 1) = some b0) ∧ (xs.getD i 0 == t) = e ∧ decide (xs.getD i 0 ≤ xs.getD (i - 1) 0) = q ∧
  ((b0 = false ∧ okI n t xs i = false) ∨ (b0 = true ∧ e = true ∧ okI n t xs i = false) ∨ (b0 = true ∧ e = false ∧ i = 0 ∧ okI n t xs i = true) ∨ (b0 = true ∧ e = false ∧ 0 < i ∧ q = true ∧ okI n t xs i = false) ∨ (b0 = true ∧ e = false ∧ 0 < i ∧ q = false ∧ okI n t xs i = true)) := by
 refine ⟨_, _, _, In_eq _ _ _, rfl, rfl, ?_⟩
 unfold okI
 by_cases c1 : 0 ≤ xs.getD i 0 ∧ xs.getD i 0 < n
 ·
  have c1b : (decide (0 ≤ xs.getD i 0) && decide (xs.getD i 0 ≤ n - 1)) = true := by rw [decide_eq_true c1.1, decide_eq_true (by omega)]; rfl
  have c1c : (decide (0 ≤ xs.getD i 0) && decide (xs.getD i 0 < n)) = true := by rw [decide_eq_true c1.1, decide_eq_true c1.2]; rfl
  rw [c1b, c1c, Bool.true_and]
  by_cases c2 : xs.getD i 0 = t
  ·
   exact .inr (.inl ⟨rfl, beq_iff_eq.2 c2, by rw [decide_eq_true c2]; rfl⟩)
  ·
   have e2 : (xs.getD i 0 == t) = false := beq_eq_false_iff_ne.2 c2
   rw [e2, decide_eq_false c2]
   by_cases hi0 : i = 0
   ·
    exact .inr (.inr (.inl ⟨rfl, rfl, hi0, by rw [decide_eq_true hi0]; rfl⟩))
   ·
    rw [decide_eq_false hi0]
    by_cases c3 : xs.getD (i - 1) 0 < xs.getD i 0
    ·
     exact .inr (.inr (.inr (.inr ⟨rfl, rfl, by omega, decide_eq_false (by omega), by rw [decide_eq_true c3]; rfl⟩)))
    ·
     exact .inr (.inr (.inr (.inl ⟨rfl, rfl, by omega, decide_eq_true (by omega), by rw [decide_eq_false c3]; rfl⟩)))
 ·
  have c1b : (decide (0 ≤ xs.getD i 0) && decide (xs.getD i 0 ≤ n - 1)) = false := Bool.eq_false_iff.2 fun h => by
   rw [Bool.and_eq_true, decide_eq_true_eq, decide_eq_true_eq] at h
   exact c1 ⟨h.1, by omega⟩
  have c1c : (decide (0 ≤ xs.getD i 0) && decide (xs.getD i 0 < n)) = false := Bool.eq_false_iff.2 fun h => by
   rw [Bool.and_eq_true, decide_eq_true_eq, decide_eq_true_eq] at h
   exact c1 h
  exact .inl ⟨c1b, by rw [c1c]; rfl⟩
theorem dropG0 (l : List Int) (i : Nat) (h : i < l.length) : l.drop i = l.getD i 0 :: l.drop (i + 1) := by
 rw [dropI l i h, rd_getD]
set_option maxRecDepth 100000 in
set_option maxHeartbeats 8000000 in
theorem kingpinref08_RulesOut.calls (a0_0 : Int) (A0_1 : Option Addr) (c0_1 : Nat) (l0_1 : List (S70)) (a1 : Int) (A2 : Option Addr) (c2 : Nat) (l2 : List Int) (r : Bool) (w : World) (hr0_1 : Kd.C k70 w A0_1 l0_1.length l0_1) (hc0_1 : l0_1.length ≤ c0_1) (hr2 : Kd.C (Kd.int .i64) w A2 l2.length l2) (hc2 : l2.length ≤ c2) (h : kingpinref08_RulesOut.f a0_0 l0_1 a1 l2 = some r) :
  Calls Try.prog 41 #[.agg #[.int .i64 a0_0, .slice A0_1 l0_1.length c0_1], .int .i64 a1, .slice A2 l2.length c2] w fun e w' => e = .returned (.bool r) ∧ Below w.heap.size w w' := by
 unfold kingpinref08_RulesOut.f at h
 by_cases hv : checkF a0_0 (l0_1.map toG) = 0 ∧ 0 ≤ a1 ∧ l2.length ≤ 1000
 rotate_left
 ·
  rw [if_neg hv] at h
  cases h
 rw [if_pos hv] at h
 obtain ⟨hck, ht0, hlen⟩ := hv
 obtain ⟨n2, n6, h20, hne⟩ := ok70 a0_0 l0_1 hck
 have HNUM := Lib.hid (fun (u : Int) (hu : 0 ≤ u) => (Num1_ev a0_0 l0_1 hck u hu).rounds)
 obtain ⟨kr, hkr⟩ := (Reach_ev a0_0 l0_1 hck a1 ht0).rounds
 obtain ⟨rch, hrch⟩ : ∃ x, reachF (l0_1.map toG) a1 = x := ⟨_, rfl⟩
 obtain ⟨ys, hys⟩ : ∃ x, sumsF (l0_1.map toG) = x := ⟨_, rfl⟩
 rw [hrch] at hkr h
 rw [hys] at h HNUM
 have HREACH := Lib.hid hkr
 have HHAS := Lib.hid (fun (v : Int) => (Has_ev l2 v (by omega)).rounds)
 have HE : Hid ((okFrom a0_0 a1 l2 0 l2.length && ruledF rch ys (openG (l0_1.map toG)) l2) = r) := Option.some.inj h
 have HR := Aside0.mk hr0_1
 have HC := Aside0.mk hc0_1
 have HR2 := Aside0.mk hr2
 have HC2 := Aside0.mk hc2
 have HCK := Lib.hid hck
 have hm : l2.length ≤ 9223372036854775807 := hr2.2.1
 have hm0 : l0_1.length ≤ 9223372036854775807 := hr0_1.2.1
 have H20 := Lib.hid h20
 have HL := Lib.hid hlen
 have ha1 : wrap64 (a0_0 - 1) = a0_0 - 1 := IntWalk.wrap64_in _ ⟨by omega, by omega⟩
 clear h hr0_1 hc0_1 hr2 hc2 hck hlen hne hkr hrch hys h20
 have HW : Aside0 (Below w.heap.size w (w.alloc (.cells #[.int .i64 a0_0, .slice A0_1 l0_1.length c0_1] 24))) := ⟨below_alloc (Below.refl _ _) _⟩
 have HBK : Aside0 (blk24 (w.alloc (.cells #[.int .i64 a0_0, .slice A0_1 l0_1.length c0_1] 24)) w.heap.size a0_0 (.slice A0_1 l0_1.length c0_1)) := ⟨blk_new _ _⟩
 go_enter Try.func41, Try.ntmps41
 go_wp2
 go_loopw [7] (fun v wr => ∃ k : Nat, k ≤ l2.length ∧ v = .int .i64 k ∧ Aside0 ((okFrom a0_0 a1 l2 k (l2.length - k) && ruledF rch ys (openG (l0_1.map toG)) l2) = r ∧ ∀ j, j < k → okI a0_0 a1 l2 j = true) ∧ Aside0 (blk24 wr w.heap.size a0_0 (.slice A0_1 l0_1.length c0_1)) ∧ Aside0 (Below w.heap.size w wr)) (fun v _ => l2.length - (intOf v).toNat)
 case atStart => exact ⟨0, Nat.zero_le _, rfl, ⟨by rw [Nat.sub_zero]; exact HE.out, fun j hj => by omega⟩, HBK, HW⟩
 case round =>
  obtain ⟨k, hk, rfl, hX, hG, hB⟩ := hrel
  have g0 : wr.cell? ⟨w.heap.size, 0, none⟩ = some (.int .i64 a0_0) := (blk_cell hG.out 0).trans rfl
  by_cases hlt : k < l2.length
  ·
   obtain ⟨b0, e, q, E0, k1, k2, hway⟩ := list_way a0_0 a1 l2 k n2 n6
   obtain ⟨ad, e2, q0⟩ := Kd.at_int (Kd.C_below HR2.out hB.out) (k : Int) (by omega) (by omega)
   cases e2
   obtain ⟨x, hx⟩ : ∃ x, l2.getD k 0 = x := ⟨_, rfl⟩
   rw [rd_getD, hx, Int.toNat_natCast] at q0
   obtain ⟨y, hy⟩ : ∃ y, l2.getD (k - 1) 0 = y := ⟨_, rfl⟩
   have q1 : 0 < k → wr.cell? (ad.add (k - 1)) = some (.int .i64 y) := by
    intro h0
    obtain ⟨ad2, e3, q1⟩ := Kd.at_int (Kd.C_below HR2.out hB.out) ((k - 1 : Nat) : Int) (by omega) (by omega)
    cases e3
    rw [rd_getD, hy, Int.toNat_natCast] at q1
    exact q1
   rw [hx, hy] at k2
   rw [hx] at k1 E0
   have HX := Lib.hid hx
   have hX1 := hX.out.1
   rw [show l2.length - k = (l2.length - (k + 1)) + 1 from by omega, show okFrom a0_0 a1 l2 k (l2.length - (k + 1) + 1) = (okI a0_0 a1 l2 k && okFrom a0_0 a1 l2 (k + 1) (l2.length - (k + 1))) from rfl] at hX1
   have HX1 := Lib.hid hX1
   have HX2 := Lib.hid hX.out.2
   have HLT := Lib.hid hlt
   clear hX hX1 hx hy
   subst e
   subst q
   rcases hway with ⟨rfl, hg⟩ | ⟨rfl, k1, hg⟩ | ⟨rfl, k1, hi0, hg⟩ | ⟨rfl, k1, hi0, k2, hg⟩ | ⟨rfl, k1, hi0, k2, hg⟩
   ·
    have HF : Hid (r = false) := by
     have := HX1.out
     rw [hg] at this
     exact this.symm
    clear hg q1
    go_wp2
    go_quiet (first | (go_at_call 46; (with_reducible refine (kingpinref08_In.calls x 0 (a0_0 - 1) _ _ E0.out).mono ?_); rintro e w' ⟨rfl, ⟨nd, rfl⟩⟩; (try first | exact ⟨rfl, _, World.drewN_drewN _ _ _⟩ | exact ⟨rfl, _, Eq.trans (World.drewN_drewN _ _ _) (congrArg (World.drewN _) (Nat.add_assoc _ _ _))⟩)))
    go_wp2
    go_ret
    exact ⟨by rw [HF.out]; rfl, by first | exact pw_below_drewN hB.out _ | exact hB.out⟩
   ·
    have HF : Hid (r = false) := by
     have := HX1.out
     rw [hg] at this
     exact this.symm
    clear hg q1
    go_wp2
    go_quiet (first | (go_at_call 46; (with_reducible refine (kingpinref08_In.calls x 0 (a0_0 - 1) _ _ E0.out).mono ?_); rintro e w' ⟨rfl, ⟨nd, rfl⟩⟩; (try first | exact ⟨rfl, _, World.drewN_drewN _ _ _⟩ | exact ⟨rfl, _, Eq.trans (World.drewN_drewN _ _ _) (congrArg (World.drewN _) (Nat.add_assoc _ _ _))⟩)))
    go_wp2
    go_ret
    exact ⟨by rw [HF.out]; rfl, by first | exact pw_below_drewN hB.out _ | exact hB.out⟩
   ·
    have HN : Aside0 ((okFrom a0_0 a1 l2 (k + 1) (l2.length - (k + 1)) && ruledF rch ys (openG (l0_1.map toG)) l2) = r ∧ ∀ j, j < k + 1 → okI a0_0 a1 l2 j = true) := ⟨by
     have := HX1.out
     rw [hg, Bool.true_and] at this
     exact this, fun j hj => by
     rcases Nat.lt_or_ge j k with h | h
     ·
      exact HX2.out j h
     ·
      rw [show j = k from by omega]
      exact hg⟩
    clear hg q1
    have bk : decide ((k : Int) > 0) = false := decide_eq_false (by omega)
    have bk2 : decide (0 < k) = false := decide_eq_false (by omega)
    have HI0 := Lib.hid hi0
    clear hi0
    go_wp2
    go_quiet (first | (go_at_call 46; (with_reducible refine (kingpinref08_In.calls x 0 (a0_0 - 1) _ _ E0.out).mono ?_); rintro e w' ⟨rfl, ⟨nd, rfl⟩⟩; (try first | exact ⟨rfl, _, World.drewN_drewN _ _ _⟩ | exact ⟨rfl, _, Eq.trans (World.drewN_drewN _ _ _) (congrArg (World.drewN _) (Nat.add_assoc _ _ _))⟩)))
    go_wp2
    go_roundw
    case rel => exact ⟨k + 1, by have := HLT.out; omega, by simp, HN, ⟨by first | exact blk_drewN hG.out _ | exact hG.out⟩, ⟨by first | exact pw_below_drewN hB.out _ | exact hB.out⟩⟩
    case measure => have := HLT.out; simp [intOf]; omega
   ·
    have HF : Hid (r = false) := by
     have := HX1.out
     rw [hg] at this
     exact this.symm
    have q1 := q1 hi0
    have bk : decide ((k : Int) > 0) = true := decide_eq_true (by omega)
    have ek : ((k : Int) - 1).toNat = k - 1 := by omega
    have ew : wrap64 ((k : Int) - 1) = (k : Int) - 1 := IntWalk.wrap64_in _ ⟨by omega, by omega⟩
    have en : (k : Int) - 1 < (l2.length : Int) := by omega
    have ep : 0 ≤ (k : Int) - 1 := by omega
    clear hg
    go_wp2
    go_quiet (first | (go_at_call 46; (with_reducible refine (kingpinref08_In.calls x 0 (a0_0 - 1) _ _ E0.out).mono ?_); rintro e w' ⟨rfl, ⟨nd, rfl⟩⟩; (try first | exact ⟨rfl, _, World.drewN_drewN _ _ _⟩ | exact ⟨rfl, _, Eq.trans (World.drewN_drewN _ _ _) (congrArg (World.drewN _) (Nat.add_assoc _ _ _))⟩)))
    go_wp2
    go_ret
    exact ⟨by rw [HF.out]; rfl, by first | exact pw_below_drewN hB.out _ | exact hB.out⟩
   ·
    have HN : Aside0 ((okFrom a0_0 a1 l2 (k + 1) (l2.length - (k + 1)) && ruledF rch ys (openG (l0_1.map toG)) l2) = r ∧ ∀ j, j < k + 1 → okI a0_0 a1 l2 j = true) := ⟨by
     have := HX1.out
     rw [hg, Bool.true_and] at this
     exact this, fun j hj => by
     rcases Nat.lt_or_ge j k with h | h
     ·
      exact HX2.out j h
     ·
      rw [show j = k from by omega]
      exact hg⟩
    have q1 := q1 hi0
    have bk : decide ((k : Int) > 0) = true := decide_eq_true (by omega)
    have ek : ((k : Int) - 1).toNat = k - 1 := by omega
    have ew : wrap64 ((k : Int) - 1) = (k : Int) - 1 := IntWalk.wrap64_in _ ⟨by omega, by omega⟩
    have en : (k : Int) - 1 < (l2.length : Int) := by omega
    have ep : 0 ≤ (k : Int) - 1 := by omega
    clear hg
    go_wp2
    go_quiet (first | (go_at_call 46; (with_reducible refine (kingpinref08_In.calls x 0 (a0_0 - 1) _ _ E0.out).mono ?_); rintro e w' ⟨rfl, ⟨nd, rfl⟩⟩; (try first | exact ⟨rfl, _, World.drewN_drewN _ _ _⟩ | exact ⟨rfl, _, Eq.trans (World.drewN_drewN _ _ _) (congrArg (World.drewN _) (Nat.add_assoc _ _ _))⟩)))
    go_wp2
    go_roundw
    case rel => exact ⟨k + 1, by have := HLT.out; omega, by simp, HN, ⟨by first | exact blk_drewN hG.out _ | exact hG.out⟩, ⟨by first | exact pw_below_drewN hB.out _ | exact hB.out⟩⟩
    case measure => have := HLT.out; simp [intOf]; omega
  ·
   obtain rfl : k = l2.length := by omega
   have HRU : Hid (ruledF rch ys (openG (l0_1.map toG)) l2 = r) := by
    have := hX.out.1
    rw [Nat.sub_self] at this
    exact this
   have HOK : Hid (∀ j, j < l2.length → 0 ≤ l2.getD j 0) := by
    intro j hj
    have := hX.out.2 j hj
    unfold okI at this
    simp only [Bool.and_eq_true, decide_eq_true_eq] at this
    exact this.1.1
   clear hX
   go_wp2
   go_loopw [8, 9] (fun s v wk => ∃ (i : Nat) (n1 : Int), i ≤ l2.length ∧ v = .int .i64 i ∧ s = .int .i64 n1 ∧ Aside0 ((l2.drop i).foldl (fun m u => wrap64 (m + ys.getD u.toNat 0)) n1 = listSum ys l2) ∧ Aside0 (blk24 wk w.heap.size a0_0 (.slice A0_1 l0_1.length c0_1)) ∧ Aside0 (Below w.heap.size w wk)) (fun _ v _ => l2.length - (intOf v).toNat)
   case atStart => exact ⟨0, 0, Nat.zero_le _, rfl, rfl, ⟨by rw [List.drop_zero]; rfl⟩, ⟨by first | exact hG.out | exact blk_drewN hG.out _⟩, ⟨by first | exact hB.out | exact pw_below_drewN hB.out _⟩⟩
   case round =>
    obtain ⟨i, n1, hi, rfl, rfl, hS, hGk, hBk⟩ := hrel
    by_cases hli : i < l2.length
    ·
     obtain ⟨ad, e2, p0⟩ := Kd.at_int (Kd.C_below HR2.out hBk.out) (i : Int) (by omega) (by omega)
     cases e2
     obtain ⟨u, hu⟩ : ∃ u, l2.getD i 0 = u := ⟨_, rfl⟩
     rw [rd_getD, hu, Int.toNat_natCast] at p0
     have hu0 := HOK.out i hli
     rw [hu] at hu0
     obtain ⟨kn, hkn⟩ := HNUM.out u hu0
     have HKN := Lib.hid hkn
     have hS2 := hS.out
     rw [dropG0 l2 i hli, hu, List.foldl_cons] at hS2
     have HS2 := Aside0.mk hS2
     have HLI := Lib.hid hli
     have g0 : wr.cell? ⟨w.heap.size, 0, none⟩ = some (.int .i64 a0_0) := (blk_cell hGk.out 0).trans rfl
     have g1 : wr.cell? ⟨w.heap.size, 1, none⟩ = some (.slice A0_1 l0_1.length c0_1) := (blk_cell hGk.out 1).trans rfl
     have HCN : Aside0 (Kd.C k70 wr.drew A0_1 l0_1.length l0_1) := ⟨by refine Kd.C_drew ?_; exact Kd.C_below HR.out hBk.out⟩
     have HNIL : Aside0 (Kd.C (Kd.int .i64) wr.drew none ([] : List Int).length ([] : List Int)) := ⟨Kd.C_nil _ _⟩
     have HNC : Hid (Calls Try.prog 35 #[.agg #[.int .i64 a0_0, .slice A0_1 l0_1.length c0_1], .int .u8 1, .int .i64 u, .slice none 0 0] wr.drew fun e w' => e = .returned (.int .i64 (ys.getD u.toNat 0)) ∧ Below wr.drew.heap.size wr.drew w') :=
      kingpinref08_Number.calls kn a0_0 A0_1 c0_1 l0_1 1 u none 0 [] _ _ HCN.out HC.out HNIL.out (Nat.le_refl _) HKN.out
     clear hkn hS2 hu hS
     go_upto_region 10 with fail
     refine start_ (n := 9) (S := fun w' => w'.cell? ⟨w.heap.size, 0, none⟩ = some (.int .i64 a0_0) ∧ w'.cell? ⟨w.heap.size, 1, none⟩ = some (.slice A0_1 l0_1.length c0_1) ∧ w'.cell? (ad.add i) = some (.int .i64 u)) (ds := []) #[false, false, false, false, false, false, false, false, false] (by kernel_rfl) rfl rfl ⟨g0, g1, p0⟩ (fun hHeld => ?_)
     refine pure_ (i := 0) (N := some 57) (v := ?_) (a' := ?_) #[true, false, false, false, false, false, false, false, false] rfl rfl (by kernel_rfl) (fun _ _ _ h => h) (Or.inl ⟨by rfl, ?_⟩) ?_ ?_
     rotate_left
     ·
      intro w'
      go_simp
      with_reducible rfl
     rotate_left
     ·
      simp only [Act.put, List.setIfInBounds_toArray, List.set_cons_zero, List.set_cons_succ, i64_w, i32_w]
      rfl
     refine pure_ (i := 2) (N := some 59) (v := ?_) (a' := ?_) #[true, false, true, false, false, false, false, false, false] rfl rfl (by kernel_rfl) (fun _ _ _ h => h) (Or.inl ⟨by rfl, ?_⟩) ?_ ?_
     rotate_left
     ·
      intro w'
      go_simp
      with_reducible rfl
     rotate_left
     ·
      simp only [Act.put, List.setIfInBounds_toArray, List.set_cons_zero, List.set_cons_succ, i64_w, i32_w]
      rfl
     refine pure_ (i := 3) (N := some 60) (v := ?_) (a' := ?_) #[true, false, true, true, false, false, false, false, false] rfl rfl (by kernel_rfl) (fun _ _ _ h => h) (Or.inl ⟨by rfl, ?_⟩) ?_ ?_
     rotate_left
     ·
      intro w'
      go_simp
      with_reducible rfl
     rotate_left
     ·
      simp only [Act.put, List.setIfInBounds_toArray, List.set_cons_zero, List.set_cons_succ, i64_w, i32_w]
      rfl
     refine pure_ (i := 4) (N := some 61) (v := ?_) (a' := ?_) #[true, false, true, true, true, false, false, false, false] rfl rfl (by kernel_rfl) (fun _ _ _ h => h) (Or.inl ⟨by rfl, ?_⟩) ?_ ?_
     rotate_left
     ·
      intro w'
      go_simp
      with_reducible rfl
     rotate_left
     ·
      simp only [Act.put, List.setIfInBounds_toArray, List.set_cons_zero, List.set_cons_succ, i64_w, i32_w]
      rfl
     refine take_ (i := 1) (N := some 58) (v := ?_) (a' := ?_) #[true, true, true, true, true, false, false, false, false] rfl rfl (by kernel_rfl) (fun _ _ _ h => h) (Or.inl ⟨by rfl, ?_⟩) hHeld ?_ ?_
     rotate_left
     ·
      rintro w' ⟨s0, s1, s2⟩
      go_simp
      with_reducible rfl
     rotate_left
     ·
      simp only [Act.put, List.setIfInBounds_toArray, List.set_cons_zero, List.set_cons_succ, i64_w, i32_w]
      rfl
     refine take_ (i := 5) (N := some 62) (v := ?_) (a' := ?_) #[true, true, true, true, true, true, false, false, false] rfl rfl (by kernel_rfl) (fun _ _ _ h => h) (Or.inl ⟨by rfl, ?_⟩) hHeld ?_ ?_
     rotate_left
     ·
      rintro w' ⟨s0, s1, s2⟩
      go_simp
      with_reducible rfl
     rotate_left
     ·
      simp only [Act.put, List.setIfInBounds_toArray, List.set_cons_zero, List.set_cons_succ, i64_w, i32_w]
      rfl
     refine one_ (i := 6) (N := some 63) #[true, true, true, true, true, true, true, false, false] rfl rfl (by kernel_rfl) (by decide) (fun K hK => ?_)
     refine goes_ Try.func35 (by kernel_rfl) rfl #[.agg #[.int .i64 a0_0, .slice A0_1 l0_1.length c0_1], .int .u8 1, .int .i64 u, .slice none 0 0] (by rfl) rfl rfl (by simp only [List.map_toArray, List.map_cons, List.map_nil]; rfl) ?_
     with_reducible refine (HNC.out).mono ?_
     rintro e w4 ⟨rfl, hb4⟩
     refine ⟨_, rfl, ?_⟩
     have HB4 := Aside0.mk hb4
     have z0 := (hb4.cell (World.block_lt_of_cell? _ _ hHeld.1)).trans hHeld.1
     have z1 := (hb4.cell (World.block_lt_of_cell? _ _ hHeld.2.1)).trans hHeld.2.1
     have z2 := (hb4.cell (World.block_lt_of_cell? _ _ hHeld.2.2)).trans hHeld.2.2
     clear hb4
     refine hK.out _ _ ⟨z0, z1, z2⟩ (fun hHeld => ?_)
     clear hK K
     refine norm_ (a' := ?_) ?_ ?_
     rotate_left
     ·
      show Act.put _ (some 63) _ = _
      simp only [Act.put, List.setIfInBounds_toArray, List.set_cons_zero, List.set_cons_succ, i64_w, i32_w]
      rfl
     refine pure_ (i := 7) (N := some 64) (v := ?_) (a' := ?_) #[true, true, true, true, true, true, true, true, false] rfl rfl (by kernel_rfl) (fun _ _ _ h => h) (Or.inl ⟨by rfl, ?_⟩) ?_ ?_
     rotate_left
     ·
      intro w'
      go_simp
      with_reducible rfl
     rotate_left
     ·
      simp only [Act.put, List.setIfInBounds_toArray, List.set_cons_zero, List.set_cons_succ, i64_w, i32_w]
      rfl
     refine pure_ (i := 8) (N := some 8) (v := ?_) (a' := ?_) #[true, true, true, true, true, true, true, true, true] rfl rfl (by kernel_rfl) (fun _ _ _ h => h) (Or.inl ⟨by rfl, ?_⟩) ?_ ?_
     rotate_left
     ·
      intro w'
      go_simp
      with_reducible rfl
     rotate_left
     ·
      simp only [Act.put, List.setIfInBounds_toArray, List.set_cons_zero, List.set_cons_succ, i64_w, i32_w]
      rfl
     refine done_ (by kernel_rfl) ?_
     go_wp2
     go_roundw
     case rel => exact ⟨i + 1, _, by have := HLI.out; omega, by simp, rfl, HS2, ⟨blk_below (by first | exact hGk.out | exact blk_drew hGk.out) HB4.out⟩, ⟨below_step (by first | exact hBk.out | exact below_drew1 hBk.out) HB4.out⟩⟩
     case measure => have := HLI.out; simp [intOf]; omega
    ·
     obtain rfl : i = l2.length := by omega
     have HLS : Hid (n1 = listSum ys l2) := by
      have := hS.out
      rw [List.drop_length] at this
      exact this
     have HST : Aside0 (((l0_1.drop 0).map toG).foldl (fun y g => if g.f4 = true then bothStep l2 y g else y) n1 = groupSum ys (openG (l0_1.map toG)) l2) := ⟨by
      rw [List.drop_zero, ← openG_fold, HLS.out]
      rfl⟩
     clear hS
     go_wp2
     go_loopw [8, 10] (fun s v wk => ∃ (j : Nat) (m : Int), j ≤ l0_1.length ∧ v = .int .i64 j ∧ s = .int .i64 m ∧ Aside0 (((l0_1.drop j).map toG).foldl (fun y g => if g.f4 = true then bothStep l2 y g else y) m = groupSum ys (openG (l0_1.map toG)) l2) ∧ Aside0 (blk24 wk w.heap.size a0_0 (.slice A0_1 l0_1.length c0_1)) ∧ Aside0 (Below w.heap.size w wk)) (fun _ v _ => l0_1.length - (intOf v).toNat)
     case atStart => exact ⟨0, n1, Nat.zero_le _, rfl, rfl, HST, ⟨by first | exact hGk.out | exact blk_drewN hGk.out _⟩, ⟨by first | exact hBk.out | exact pw_below_drewN hBk.out _⟩⟩
     case round =>
      obtain ⟨j, m, hj, rfl, rfl, hS3, hG3, hB3⟩ := hrel
      have f0 : wr.cell? ⟨w.heap.size, 0, none⟩ = some (.int .i64 a0_0) := (blk_cell hG3.out 0).trans rfl
      have f1 : wr.cell? ⟨w.heap.size, 1, none⟩ = some (.slice A0_1 l0_1.length c0_1) := (blk_cell hG3.out 1).trans rfl
      by_cases hlj : j < l0_1.length
      ·
       obtain ⟨ad, e2, q0, q1, q2, q3, q4⟩ := at_T70 (Kd.C_below HR.out hB3.out) (j : Int) (by omega) (by omega)
       cases e2
       rw [Int.toNat_natCast] at q0 q1 q2 q3 q4
       have hd := drop70 l0_1 j hlj
       have hS4 := hS3.out
       rw [hd, List.map_cons, List.foldl_cons] at hS4
       clear hd
       obtain ⟨⟨x0, x1, x2, x3, x4⟩, hx⟩ : ∃ x, rd_T70 l0_1 (j : Int) = x := ⟨_, rfl⟩
       rw [hx] at q0 q1 q2 q3 q4 hS4
       obtain ⟨b1, hb1⟩ : ∃ b, l2.contains x0 = b := ⟨_, rfl⟩
       obtain ⟨b2, hb2⟩ : ∃ b, l2.contains x1 = b := ⟨_, rfl⟩
       obtain ⟨ka, hka⟩ := HHAS.out x0
       obtain ⟨kb, hkb⟩ := HHAS.out x1
       rw [hb1] at hka
       rw [hb2] at hkb
       have HKA := Lib.hid hka
       have HKB := Lib.hid hkb
       have HST4 : Hid ((((l0_1.drop (j + 1)).map toG).foldl (fun y g => if g.f4 = true then bothStep l2 y g else y) (if x4 = true then (if (b1 && b2) = true then wrap64 (m + 2) else m) else m)) = groupSum ys (openG (l0_1.map toG)) l2) := by
        have e : bothStep l2 m (toG ⟨x0, x1, x2, x3, x4⟩) = if (b1 && b2) = true then wrap64 (m + 2) else m := by
         unfold bothStep
         rw [show (toG ⟨x0, x1, x2, x3, x4⟩).f0 = x0 from rfl, show (toG ⟨x0, x1, x2, x3, x4⟩).f1 = x1 from rfl, hb1, hb2]
        rw [e] at hS4
        exact hS4
       have HLJ := Lib.hid hlj
       clear hS4 hS3 hx hb1 hb2 hka hkb
       go_upto_region 15 with fail
       have hb2 : Below wr.heap.size wr (wr.alloc (.cells #[.int .i64 x0, .int .i64 x1, .int .i64 x2, .int .i64 x3, .bool x4] 70)) := below_alloc (Below.refl _ _) _
       have hb3 : (wr.alloc (.cells #[.int .i64 x0, .int .i64 x1, .int .i64 x2, .int .i64 x3, .bool x4] 70)).heap[wr.heap.size]? = some (.cells #[.int .i64 x0, .int .i64 x1, .int .i64 x2, .int .i64 x3, .bool x4] 70 (0, 0)) := blk_new _ _
       obtain ⟨W1, hW1⟩ : ∃ W, W = wr.alloc (.cells #[.int .i64 x0, .int .i64 x1, .int .i64 x2, .int .i64 x3, .bool x4] 70) := ⟨_, rfl⟩
       rw [← hW1] at hb2 hb3 ⊢
       clear hW1
       have HG1 : Aside0 (blk24 W1 w.heap.size a0_0 (.slice (some ad) l0_1.length c0_1)) := ⟨blk_below hG3.out hb2⟩
       have HB1 : Aside0 (Below w.heap.size w W1) := ⟨below_step hB3.out hb2⟩
       clear f0 f1 q0 q1 q2 q3 q4 hb2
       have m0 : W1.cell? ⟨wr.heap.size, 0, none⟩ = some (.int .i64 x0) := (blk_cell hb3 0).trans rfl
       have m1 : W1.cell? ⟨wr.heap.size, 1, none⟩ = some (.int .i64 x1) := (blk_cell hb3 1).trans rfl
       have m4 : W1.cell? ⟨wr.heap.size, 4, none⟩ = some (.bool x4) := (blk_cell hb3 4).trans rfl
       clear hb3
       have hcase : (x4 = false) ∨ (x4 = true ∧ b1 = false) ∨ (x4 = true ∧ b1 = true ∧ b2 = false) ∨ (x4 = true ∧ b1 = true ∧ b2 = true) := by
        cases x4 <;> cases b1 <;> cases b2 <;> simp
       rcases hcase with rfl | ⟨rfl, rfl⟩ | ⟨rfl, rfl, rfl⟩ | ⟨rfl, rfl, rfl⟩
       all_goals
        go_wp2_with (first | (go_at_call 68; (with_reducible refine (kingpinref08_Has.calls ka A2 _ l2 x0 _ _ ?hc HC2.out HKA.out).mono ?_); (case hc => first | exact Kd.C_below HR2.out HB1.out | exact Kd.C_below HR2.out (pw_below_drewN HB1.out _) | exact Kd.C_below HR2.out (pw_below_drewN (pw_below_drewN HB1.out _) _)); rintro e w' ⟨rfl, ⟨nd, rfl⟩⟩) | (go_at_call 68; (with_reducible refine (kingpinref08_Has.calls kb A2 _ l2 x1 _ _ ?hc HC2.out HKB.out).mono ?_); (case hc => first | exact Kd.C_below HR2.out HB1.out | exact Kd.C_below HR2.out (pw_below_drewN HB1.out _) | exact Kd.C_below HR2.out (pw_below_drewN (pw_below_drewN HB1.out _) _)); rintro e w' ⟨rfl, ⟨nd, rfl⟩⟩))
        go_roundw
        case rel => exact ⟨j + 1, _, by have := HLJ.out; omega, by simp, rfl, ⟨HST4.out⟩, ⟨by first | exact HG1.out | exact blk_drewN HG1.out _ | exact blk_drewN (blk_drewN HG1.out _) _⟩, ⟨by first | exact HB1.out | exact pw_below_drewN HB1.out _ | exact pw_below_drewN (pw_below_drewN HB1.out _) _⟩⟩
        case measure => have := HLJ.out; simp [intOf]; omega
      ·
       obtain rfl : j = l0_1.length := by omega
       have HM : Hid (m = groupSum ys (openG (l0_1.map toG)) l2) := by
        have := hS3.out
        rw [List.drop_length] at this
        exact this
       clear hS3
       by_cases hp : 0 < l2.length
       ·
        have bp : decide ((l2.length : Int) > 0) = true := decide_eq_true (by omega)
        have bp2 : decide (0 < l2.length) = true := decide_eq_true hp
        have HF : Hid (r = decide (m > wrap64 (rch * l2.length))) := by
         show r = _
         rw [← HRU.out]
         unfold ruledF
         rw [bp2, Bool.true_and, HM.out]
        go_wp2_with (go_at_call 78; (with_reducible refine (kingpinref08_Reach.calls kr a0_0 A0_1 c0_1 l0_1 a1 rch _ (Kd.C_below HR.out hB3.out) HC.out HREACH.out).mono ?_); rintro e w8 ⟨rfl, hb8⟩; have HB8 := Aside0.mk (below_step hB3.out hb8); clear hb8)
        go_ret
        exact ⟨by rw [HF.out]; rfl, HB8.out⟩
       ·
        have bp : decide ((l2.length : Int) > 0) = false := decide_eq_false (by omega)
        have bp2 : decide (0 < l2.length) = false := decide_eq_false hp
        have HF : Hid (r = false) := by
         show r = _
         rw [← HRU.out]
         unfold ruledF
         rw [bp2, Bool.false_and]
        have HP := Lib.hid hp
        clear hp
        go_wp2
        go_ret
        exact ⟨by rw [HF.out]; rfl, by first | exact hB3.out | exact pw_below_drewN hB3.out _⟩
end Go.Proofs.Ytmnamkcjldaoeaa.PAll
namespace Go.Proofs.Ytmnamkcjldaoeaa.PAll
open Go.RowKit Go.Proofs.YtmnamkcjldaoeaaW.PrintWords Go.Proofs.YtmnamkcjldaoeaaW.PrintLast Go.Proofs.YtmnamkcjldaoeaaW.PrintMore
attribute [local go_sem] max2_int min2_int max_two min_two max_three min_three max_four min_four   -- for this text's walks alone
set_option linter.unusedVariables false
set_option linter.unusedSimpArgs false
mutual
def kingpinref08_Reason.l0 : Nat → Int → List Int → Int → Int → List (S70) → Option (List Int)
 | 0, _, _, _, _, _ => none
 | k + 1, x1, x5, x6, x451000, x451001 => if 0 ≤ (IntKind.u64.wrap (x451000)) then (if x6 < (shl .i64 1 (IntKind.u64.wrap (x451000))) then (kingpinref08_Reason.l1 k x1 x5 x6 ([] : List Int) 0 x451000 x451001) else (some x5)) else (none)
def kingpinref08_Reason.l1 : Nat → Int → List Int → Int → List Int → Int → Int → List (S70) → Option (List Int)
 | 0, _, _, _, _, _, _, _ => none
 | k + 1, x1, x5, x6, x7, x8, x451000, x451001 => if x8 < x451000 then (if 0 ≤ (IntKind.u64.wrap (x8)) then (if (Int.tmod (shr .i64 x6 (IntKind.u64.wrap (x8))) 2) = 1 then (if x7.length < 17592186044416 then (kingpinref08_Reason.l1 k x1 x5 x6 (x7 ++ [x8]) (wrap64 (x8 + 1)) x451000 x451001) else (none)) else (kingpinref08_Reason.l1 k x1 x5 x6 x7 (wrap64 (x8 + 1)) x451000 x451001)) else (none)) else ((kingpinref08_RulesOut.f x451000 x451001 x1 x7).bind fun t454 => (if t454 = true then (if (x5.length : Int) = 0 then (kingpinref08_Reason.l0 k x1 x7 (wrap64 (x6 + 1)) x451000 x451001) else ((kingpinref08_Less.f k x7 x5).bind fun t455 => (if t455 = true then (kingpinref08_Reason.l0 k x1 x7 (wrap64 (x6 + 1)) x451000 x451001) else (kingpinref08_Reason.l0 k x1 x5 (wrap64 (x6 + 1)) x451000 x451001)))) else (kingpinref08_Reason.l0 k x1 x5 (wrap64 (x6 + 1)) x451000 x451001)))
end
def kingpinref08_Reason.f (k : Nat) (a0_0 : Int) (l0_1 : List (S70)) (a1 : Int) : Option (List Int) := kingpinref08_Reason.l0 k a1 ([] : List Int) 1 a0_0 l0_1
set_option maxHeartbeats 8000000 in
set_option maxRecDepth 100000 in
theorem kingpinref08_Reason.calls (k : Nat) (a0_0 : Int) (A0_1 : Option Addr) (c0_1 : Nat) (l0_1 : List (S70)) (a1 : Int) (r : List Int) (w : World) (hr0_1 : Kd.C k70 w A0_1 l0_1.length l0_1) (hc0_1 : l0_1.length ≤ c0_1) (h : kingpinref08_Reason.f k a0_0 l0_1 a1 = some r) :
  Calls Try.prog 42 #[.agg #[.int .i64 a0_0, .slice A0_1 l0_1.length c0_1], .int .i64 a1] w fun e w' => ∃ v0_ : Value, e = .returned (v0_) ∧ Kd.R (Kd.int .i64) 3 w' w.heap.size (fun _ => True) v0_ r ∧ Below w.heap.size w w' := by
 have hu24 := Try.underlying24
 have HR0_1 := Aside0.mk hr0_1
 have HC0_1 := Aside0.mk hc0_1
 clear hr0_1 hc0_1
 have HB := Aside0.mk (Below.refl w.heap.size w)
 have H : (kingpinref08_Reason.l0 k a1 ([] : List Int) 1 a0_0 l0_1) = some r := h
 clear h
 have H' := Aside0.mk H
 clear H
 go_enter Try.func42, Try.ntmps42
 go_wp2_with (first | ((with_reducible refine gate_dst (N := 2) rfl ?_); (try (refine gate_guard (by rfl) ?_; dsimp only)); refine box_event ?hg (N := 2) ?hd (cs := #[.int .i64 a0_0, .slice A0_1 l0_1.length c0_1]) (t := 24) ?hr ?_; (case hd => rfl); (case hg => rfl); (case hr => first | (go_simp; done) | (go_simp; rfl)); intro gb450 hg w3 hbox hb; have n0_ := Aside0.mk (below_step (by repeat (first | (with_reducible first | exact HB.out | apply below_alloc | apply pw_below_drewN | apply below_drew1) | exact HB.out)) hb); have n1_ := Aside0.mk (hbox); have n2_ := Aside0.mk ((by rw [hg]; exact (below_size (by repeat (first | (with_reducible first | exact HB.out | apply below_alloc | apply pw_below_drewN | apply below_drew1) | exact HB.out))) : w.heap.size ≤ gb450)); have n3_ := Aside0.mk ((by rw [hg]; exact (below_size (by repeat (first | (with_reducible first | exact HB.out | apply below_alloc | apply pw_below_drewN | apply below_drew1) | exact HB.out))) : w.heap.size ≤ gb450)); clear HB; have HB := n0_; have BK450 := n1_; have GW450 := n2_; have GE450 := n3_; clear n0_ n1_ n2_ n3_; clear hb hbox hg))
 go_loopg [5, 6] k (fun kq v5 v6 w' => ∃ (x5_1 : List Int) (x6_1 : Int), v6 = .int .i64 x6_1 ∧ Aside0 (kingpinref08_Reason.l0 kq a1 x5_1 x6_1 a0_0 l0_1 = some r) ∧ Aside0 (kq ≤ k) ∧ Aside0 (Kd.R (Kd.int .i64) 3 w' w.heap.size (fun _ => True) v5 x5_1) ∧ Aside0 (w'.heap[gb450]? = some (.cells #[.int .i64 a0_0, (.slice A0_1 l0_1.length c0_1)] 24 (0, 0))) ∧ Aside0 (Below w.heap.size w w'))
 case atStart => exact ⟨(([] : List Int)), (1), (by first | rfl | (simp; done) | (simp [*]; done)), H', ⟨Nat.le_refl _⟩, ⟨by first | exact Kd.R_nil _ _ _ _ _ | exact Kd.N_nil _ _ _ _ _ | exact Kd.V_nil _ _ _ _ _ | exact Kd.Q_nil _ _ _ _ _ | exact Kd.S_nil _ _ _ _ _⟩, ⟨by (with_reducible repeat (first | refine blk_drewN ?_ _ | refine blk_drew ?_ | refine blk_alloc ?_ _)); exact BK450.out⟩, ⟨by repeat (first | (with_reducible first | exact HB.out | apply below_alloc | apply pw_below_drewN | apply below_drew1 | refine below_set ?_ GE450.out) | exact HB.out)⟩⟩
 case round =>
  clear H'
  try clear p2
  obtain ⟨x5_1, x6_1, rfl, HA, HK1, HO_5, BK450, HB⟩ := hrel
  cases gk with
  | zero => exact absurd HA.out (by simp [kingpinref08_Reason.l0])
  | succ k1 =>
   have H := HA.out
   clear HA
   simp only [kingpinref08_Reason.l0] at H
   obtain ⟨ji4, hji4⟩ : ∃ j_ : Int, (IntKind.u64.wrap (a0_0)) = j_ := ⟨_, rfl⟩
   replace H : (if 0 ≤ (ji4) then (if x6_1 < (shl .i64 1 (ji4)) then (kingpinref08_Reason.l1 k1 a1 x5_1 x6_1 ([] : List Int) 0 a0_0 l0_1) else (some x5_1)) else (none)) = some r := by first | (rw [hji4] at H; exact H) | (simp only [hji4] at H ⊢; exact H)
   by_cases c5 : 0 ≤ (ji4)
   ·
    rw [if_pos c5] at H
    have c5b0 := eq_true c5
    have c5b1 : decide (0 ≤ (ji4)) = true := decide_eq_true c5
    clear c5
    obtain ⟨ji6, hji6⟩ : ∃ j_ : Int, (shl .i64 1 (ji4)) = j_ := ⟨_, rfl⟩
    replace H : (if x6_1 < (ji6) then (kingpinref08_Reason.l1 k1 a1 x5_1 x6_1 ([] : List Int) 0 a0_0 l0_1) else (some x5_1)) = some r := by first | (rw [hji6] at H; exact H) | (simp only [hji6] at H ⊢; exact H)
    have hji6_ : (IntKind.i64.wrap (1 * 2 ^ min (ji4).toNat 64)) = ji6 := hji6
    have hji6z : (ji4) ≤ 64 → (IntKind.i64.wrap (1 * 2 ^ (ji4).toNat)) = ji6 := shl_small hji6
    have hji6u : (IntKind.i64.wrap (2 ^ min (ji4).toNat 64)) = ji6 := by have h_ := hji6_; rw [Int.one_mul] at h_; exact h_
    have hji6v : (ji4) ≤ 64 → (IntKind.i64.wrap (2 ^ (ji4).toNat)) = ji6 := fun hle_ => by have h_ := hji6z hle_; rw [Int.one_mul] at h_; exact h_
    have hji6y : (wrap64 (1 * 2 ^ min (ji4).toNat 64)) = ji6 := (i64_w _).symm.trans hji6_
    have hji6x : (ji4) ≤ 64 → (wrap64 (1 * 2 ^ (ji4).toNat)) = ji6 := fun h_ => (i64_w _).symm.trans (hji6z h_)
    by_cases c7 : x6_1 < (ji6)
    ·
     rw [if_pos c7] at H
     have c7b0 : decide (x6_1 < (ji6)) = true := decide_eq_true c7
     clear c7
     have H' := Aside0.mk H
     clear H
     have hcz8_0 : wr.cell? ⟨gb450, 0, none⟩ = some (.int .i64 a0_0) := (blk_cell BK450.out 0).trans rfl
     have hcz8_1 : wr.cell? ⟨gb450, 1, none⟩ = some (.slice A0_1 l0_1.length c0_1) := (blk_cell BK450.out 1).trans rfl
     have hfz8_0 := blk_frozen BK450.out 0
     have hfz8_1 := blk_frozen BK450.out 1
     go_wp2
     go_loopg [7, 8] k1 (fun kq v7 v8 w' => ∃ (x7_2 : List Int) (x8_2 : Int), v8 = .int .i64 x8_2 ∧ Aside0 (kingpinref08_Reason.l1 kq a1 x5_1 x6_1 x7_2 x8_2 a0_0 l0_1 = some r) ∧ Aside0 (kq ≤ k1) ∧ Aside0 (Kd.R (Kd.int .i64) 3 w' w.heap.size (fun k_ => some k_ ≠ (v7 : Value).ownBlock) u5 x5_1) ∧ Aside0 (Kd.R (Kd.int .i64) 3 w' w.heap.size (fun k_ => some k_ ≠ (u5 : Value).ownBlock) v7 x7_2) ∧ Aside0 (w'.heap[gb450]? = some (.cells #[.int .i64 a0_0, (.slice A0_1 l0_1.length c0_1)] 24 (0, 0))) ∧ Aside0 (Below w.heap.size w w'))
     case atStart => exact ⟨(([] : List Int)), (0), (by first | rfl | (simp; done) | (simp [*]; done)), H', ⟨Nat.le_refl _⟩, ⟨by (with_reducible repeat (first | apply Kd.R_alloc | apply Kd.R_drewN | apply Kd.R_drew)); exact Kd.R_mono HO_5.out (fun _ hk => (by simp [Value.ownBlock]))⟩, ⟨by first | exact Kd.R_nil _ _ _ _ _ | exact Kd.N_nil _ _ _ _ _ | exact Kd.V_nil _ _ _ _ _ | exact Kd.Q_nil _ _ _ _ _ | exact Kd.S_nil _ _ _ _ _⟩, ⟨by (with_reducible repeat (first | refine blk_drewN ?_ _ | refine blk_drew ?_ | refine blk_alloc ?_ _)); exact BK450.out⟩, ⟨by repeat (first | (with_reducible first | exact HB.out | apply below_alloc | apply pw_below_drewN | apply below_drew1 | refine below_set ?_ GE450.out) | exact HB.out)⟩⟩
     case round =>
      clear H'
      try clear p2
      try clear c4
      try clear c5
      try clear c5b0
      try clear c5b1
      try clear p6
      try clear c7
      try clear c7b0
      try clear hcz8_0
      try clear hcz8_1
      try clear hfz8_0
      try clear hfz8_1
      try clear p2
      obtain ⟨x7_2, x8_2, rfl, HA, HK2, HO_5, HO_7, BK450, HB⟩ := hrel
      cases gk with
      | zero => exact absurd HA.out (by simp [kingpinref08_Reason.l1])
      | succ k2 =>
       have H := HA.out
       clear HA
       simp only [kingpinref08_Reason.l1] at H
       by_cases c9 : x8_2 < a0_0
       ·
        rw [if_pos c9] at H
        have c9b0 : decide (x8_2 < a0_0) = true := decide_eq_true c9
        clear c9
        obtain ⟨ji10, hji10⟩ : ∃ j_ : Int, (IntKind.u64.wrap (x8_2)) = j_ := ⟨_, rfl⟩
        replace H : (if 0 ≤ (ji10) then (if (Int.tmod (shr .i64 x6_1 (ji10)) 2) = 1 then (if x7_2.length < 17592186044416 then (kingpinref08_Reason.l1 k2 a1 x5_1 x6_1 (x7_2 ++ [x8_2]) (wrap64 (x8_2 + 1)) a0_0 l0_1) else (none)) else (kingpinref08_Reason.l1 k2 a1 x5_1 x6_1 x7_2 (wrap64 (x8_2 + 1)) a0_0 l0_1)) else (none)) = some r := by first | (rw [hji10] at H; exact H) | (simp only [hji10] at H ⊢; exact H)
        by_cases c11 : 0 ≤ (ji10)
        ·
         rw [if_pos c11] at H
         have c11b0 := eq_true c11
         have c11b1 : decide (0 ≤ (ji10)) = true := decide_eq_true c11
         clear c11
         obtain ⟨ji12, hji12⟩ : ∃ j_ : Int, (shr .i64 x6_1 (ji10)) = j_ := ⟨_, rfl⟩
         replace H : (if (Int.tmod (ji12) 2) = 1 then (if x7_2.length < 17592186044416 then (kingpinref08_Reason.l1 k2 a1 x5_1 x6_1 (x7_2 ++ [x8_2]) (wrap64 (x8_2 + 1)) a0_0 l0_1) else (none)) else (kingpinref08_Reason.l1 k2 a1 x5_1 x6_1 x7_2 (wrap64 (x8_2 + 1)) a0_0 l0_1)) = some r := by first | (rw [hji12] at H; exact H) | (simp only [hji12] at H ⊢; exact H)
         have hji12_ : (x6_1 / 2 ^ min (ji10).toNat 64) = ji12 := hji12
         have hji12z : (ji10) ≤ 64 → (x6_1 / 2 ^ (ji10).toNat) = ji12 := shr_small hji12
         by_cases c13 : (Int.tmod (ji12) 2) = 1
         ·
          rw [if_pos c13] at H
          have c13b0 : ((Int.tmod (ji12) 2) == 1) = true := beq_iff_eq.mpr c13
          have c13b1 : ((Int.tmod (ji12) 2) != 1) = false := bne_eq_false_iff_eq.mpr c13
          clear c13
          by_cases c14 : x7_2.length < 17592186044416
          ·
           rw [if_pos c14] at H
           have LMc14 := Aside0.mk c14
           clear c14
           obtain ⟨y451, hy451⟩ : ∃ y_ : List Int, y_ = (x7_2 ++ [x8_2]) := ⟨_, rfl⟩
           replace H : (kingpinref08_Reason.l1 k2 a1 x5_1 x6_1 y451 (wrap64 (x8_2 + 1)) a0_0 l0_1) = some r := by first | (rw [hy451]; with_reducible exact H) | (have H2_ := (Option.bind_some _ _).symm.trans H; rw [hy451]; with_reducible exact H2_) | (have H2_ := (Option.bind_some _ _).symm.trans H; with_reducible exact H2_) | with_reducible exact H | (rw [hy451]; exact H) | exact H
           have Ny451 := Aside0.mk hy451
           clear hy451
           have H' := Aside0.mk H
           clear H
           have hcz15_0 : wr.cell? ⟨gb450, 0, none⟩ = some (.int .i64 a0_0) := (blk_cell BK450.out 0).trans rfl
           have hcz15_1 : wr.cell? ⟨gb450, 1, none⟩ = some (.slice A0_1 l0_1.length c0_1) := (blk_cell BK450.out 1).trans rfl
           have hfz15_0 := blk_frozen BK450.out 0
           have hfz15_1 := blk_frozen BK450.out 1
           go_wp2_with (first | ((with_reducible refine gate_builtin (b := .append) (xs := #[.tmp 29, .tmp 31]) rfl ?_); (try (refine gate_guard (by rfl) ?_; dsimp only)); at_builtin; refine Kd.R_append (Kd.int .i64) (w0 := w) w.heap.size rfl (.tmp 29) (.tmp 31) 34 3 (.int .i64 0) 8 rfl Try.underlying34 info3 rfl (by decide) (by omega) u7 x7_2 x8_2 [.int .i64 x8_2] (fun k_ => some k_ ≠ (u5 : Value).ownBlock) (fun _ => False) rfl rfl ?aP (fun _ hk => hk.elim) ?aF ?aO ?aB ?aS ?aL ?_; (case aP => exact rfl); (case aB => exact (by repeat (first | (with_reducible first | exact HB.out | apply below_alloc | apply pw_below_drewN | apply below_drew1 | refine below_set ?_ GE450.out) | exact HB.out))); (case aF => exact (fun k_ hk => Kd.fresh' (Kd.R_lt (by (with_reducible repeat (first | apply Kd.R_alloc | apply Kd.R_drewN | apply Kd.R_drew)); exact HO_5.out)) k_ hk)); (case aO => exact (by (with_reducible repeat (first | apply Kd.R_alloc | apply Kd.R_drewN | apply Kd.R_drew)); exact HO_7.out)); (case aS => exact (below_size (by repeat (first | (with_reducible first | exact HB.out | apply below_alloc | apply pw_below_drewN | apply below_drew1 | refine below_set ?_ GE450.out) | exact HB.out)))); (case aL => have := LMc14.out; omega); intro v452 w16 ho hb hg hat; rw [← Ny451.out] at ho; have n0_ := Aside0.mk (Kd.R_after (ok := (fun _ => True)) (by (with_reducible repeat (first | apply Kd.R_alloc | apply Kd.R_drewN | apply Kd.R_drew)); exact Kd.R_mono HO_5.out (fun _ hk => ⟨trivial, hk⟩)) hg hat); have n1_ := Aside0.mk (blk_grown (g := gb450) (o := .cells #[.int .i64 a0_0, .slice A0_1 l0_1.length c0_1] 24 (0, 0)) (by (with_reducible repeat (first | refine blk_drewN ?_ _ | refine blk_drew ?_ | refine blk_alloc ?_ _)); exact BK450.out) hg (Kd.R_ne HO_7.out BK450.out (by decide))); have n2_ := Aside0.mk (hb); have n3_ := Aside0.mk (ho); clear HO_5; clear BK450; clear HB; clear HO_7; have HO_5 := n0_; have BK450 := n1_; have HB := n2_; have HO453 := n3_; clear n0_ n1_ n2_ n3_; clear ho hb hg hat))
           go_roundg k2
           case measure => have := HK1.out; have := HK2.out; omega
           case rel => exact ⟨(y451), (wrap64 (x8_2 + 1)), (by first | rfl | (simp; done) | (simp [*]; done)), H', ⟨by have := HK1.out; have := HK2.out; omega⟩, ⟨by (with_reducible repeat (first | apply Kd.R_alloc | apply Kd.R_drewN | apply Kd.R_drew)); exact Kd.R_mono HO_5.out (fun _ hk => hk.2)⟩, ⟨by (with_reducible repeat (first | apply Kd.R_alloc | apply Kd.R_drewN | apply Kd.R_drew)); exact HO453.out⟩, ⟨by (with_reducible repeat (first | refine blk_drewN ?_ _ | refine blk_drew ?_ | refine blk_alloc ?_ _)); exact BK450.out⟩, ⟨by repeat (first | (with_reducible first | exact HB.out | apply below_alloc | apply pw_below_drewN | apply below_drew1 | refine below_set ?_ GE450.out) | exact HB.out)⟩⟩
          ·
           rw [if_neg c14] at H
           exact absurd H (by simp)
         ·
          rw [if_neg c13] at H
          have c13b0 : ((Int.tmod (ji12) 2) == 1) = false := beq_eq_false_iff_ne.mpr c13
          have c13b1 : ((Int.tmod (ji12) 2) != 1) = true := bne_iff_ne.mpr c13
          have H' := Aside0.mk H
          clear H
          have hcz17_0 : wr.cell? ⟨gb450, 0, none⟩ = some (.int .i64 a0_0) := (blk_cell BK450.out 0).trans rfl
          have hcz17_1 : wr.cell? ⟨gb450, 1, none⟩ = some (.slice A0_1 l0_1.length c0_1) := (blk_cell BK450.out 1).trans rfl
          have hfz17_0 := blk_frozen BK450.out 0
          have hfz17_1 := blk_frozen BK450.out 1
          go_wp2
          go_roundg k2
          case measure => have := HK1.out; have := HK2.out; omega
          case rel => exact ⟨(x7_2), (wrap64 (x8_2 + 1)), (by first | rfl | (simp; done) | (simp [*]; done)), H', ⟨by have := HK1.out; have := HK2.out; omega⟩, ⟨by (with_reducible repeat (first | apply Kd.R_alloc | apply Kd.R_drewN | apply Kd.R_drew)); exact HO_5.out⟩, ⟨by (with_reducible repeat (first | apply Kd.R_alloc | apply Kd.R_drewN | apply Kd.R_drew)); exact HO_7.out⟩, ⟨by (with_reducible repeat (first | refine blk_drewN ?_ _ | refine blk_drew ?_ | refine blk_alloc ?_ _)); exact BK450.out⟩, ⟨by repeat (first | (with_reducible first | exact HB.out | apply below_alloc | apply pw_below_drewN | apply below_drew1 | refine below_set ?_ GE450.out) | exact HB.out)⟩⟩
        ·
         rw [if_neg c11] at H
         exact absurd H (by simp)
       ·
        rw [if_neg c9] at H
        have c9b0 : decide (x8_2 < a0_0) = false := decide_eq_false c9
        clear c9
        replace H := Option.bind_eq_some_iff.mp H
        obtain ⟨t454, A180, H⟩ := H
        replace H : (if t454 = true then (if (x5_1.length : Int) = 0 then (kingpinref08_Reason.l0 k2 a1 x7_2 (wrap64 (x6_1 + 1)) a0_0 l0_1) else ((kingpinref08_Less.f k2 x7_2 x5_1).bind fun t455 => (if t455 = true then (kingpinref08_Reason.l0 k2 a1 x7_2 (wrap64 (x6_1 + 1)) a0_0 l0_1) else (kingpinref08_Reason.l0 k2 a1 x5_1 (wrap64 (x6_1 + 1)) a0_0 l0_1)))) else (kingpinref08_Reason.l0 k2 a1 x5_1 (wrap64 (x6_1 + 1)) a0_0 l0_1)) = some r := H
        have A18 := Aside0.mk A180
        clear A180
        by_cases c19 : t454 = true
        ·
         subst c19
         have H1 : (if (x5_1.length : Int) = 0 then (kingpinref08_Reason.l0 k2 a1 x7_2 (wrap64 (x6_1 + 1)) a0_0 l0_1) else ((kingpinref08_Less.f k2 x7_2 x5_1).bind fun t455 => (if t455 = true then (kingpinref08_Reason.l0 k2 a1 x7_2 (wrap64 (x6_1 + 1)) a0_0 l0_1) else (kingpinref08_Reason.l0 k2 a1 x5_1 (wrap64 (x6_1 + 1)) a0_0 l0_1)))) = some r := by rw [if_pos rfl] at H; exact H
         clear H
         have H := H1
         clear H1
         by_cases c20 : (x5_1.length : Int) = 0
         ·
          rw [if_pos c20] at H
          have c20b0 : ((x5_1.length : Int) == 0) = true := beq_iff_eq.mpr c20
          have c20b1 : ((x5_1.length : Int) != 0) = false := bne_eq_false_iff_eq.mpr c20
          clear c20
          have H' := Aside0.mk H
          clear H
          have hcz21_0 : wr.cell? ⟨gb450, 0, none⟩ = some (.int .i64 a0_0) := (blk_cell BK450.out 0).trans rfl
          have hcz21_1 : wr.cell? ⟨gb450, 1, none⟩ = some (.slice A0_1 l0_1.length c0_1) := (blk_cell BK450.out 1).trans rfl
          have hfz21_0 := blk_frozen BK450.out 0
          have hfz21_1 := blk_frozen BK450.out 1
          obtain ⟨Ao22, co22, eo22⟩ := Kd.R_slice HO_7.out
          subst eo22
          go_wp2_with (first | ((with_reducible refine gate_callee (f := 41) rfl ?_); refine goesL_ (some 36) rfl rfl Try.func41 (by kernel_rfl) rfl #[.agg #[.int .i64 a0_0, .slice A0_1 l0_1.length c0_1], .int .i64 a1, .slice Ao22 x7_2.length co22] rfl (by (try simp only [List.map_toArray, List.map_cons, List.map_nil]); first | done | rfl | (simp only [List.length_drop, List.length_take]; rfl)) ?_; (with_reducible refine (kingpinref08_RulesOut.calls a0_0 _ _ l0_1 a1 _ _ x7_2 true _ ?side1 ?side2 ?side3 ?side4 A18.out).mono ?_); (case side1 => repeat (first | exact (Kd.C_below HR0_1.out HB.out) | (with_reducible refine Kd.C_alloc ?_ _) | (with_reducible refine Kd.C_drewN ?_ _) | (with_reducible refine Kd.C_drew ?_))); (case side2 => exact HC0_1.out); (case side3 => repeat (first | exact (Kd.R_reads' HO_7.out).2.2 | (with_reducible refine Kd.C_alloc ?_ _) | (with_reducible refine Kd.C_drewN ?_ _) | (with_reducible refine Kd.C_drew ?_))); (case side4 => exact (Kd.R_reads' HO_7.out).2.1); rintro e w23 ⟨rfl, hb⟩; refine ⟨_, rfl, ?_⟩; have n0_ := Aside0.mk (Kd.R_below (by (with_reducible repeat (first | apply Kd.R_alloc | apply Kd.R_drewN | apply Kd.R_drew)); exact HO_5.out) hb); have n1_ := Aside0.mk (Kd.R_below (by (with_reducible repeat (first | apply Kd.R_alloc | apply Kd.R_drewN | apply Kd.R_drew)); exact HO_7.out) hb); have n2_ := Aside0.mk (blk_below (g := gb450) (o := .cells #[.int .i64 a0_0, .slice A0_1 l0_1.length c0_1] 24 (0, 0)) (by (with_reducible repeat (first | refine blk_drewN ?_ _ | refine blk_drew ?_ | refine blk_alloc ?_ _)); exact BK450.out) hb); have n3_ := Aside0.mk (below_step (by repeat (first | (with_reducible first | exact HB.out | apply below_alloc | apply pw_below_drewN | apply below_drew1 | refine below_set ?_ GE450.out) | exact HB.out)) hb); clear HO_5; clear HO_7; clear BK450; clear HB; have HO_5 := n0_; have HO_7 := n1_; have BK450 := n2_; have HB := n3_; clear n0_ n1_ n2_ n3_; (try clear hb); (try clear hb2); (try clear hk); (try clear hi); obtain ⟨Ao24, co24, eo24⟩ := Kd.R_slice HO_5.out; subst eo24))
          go_roundg k2
          case measure => have := HK1.out; have := HK2.out; omega
          case rel => exact ⟨(x7_2), (wrap64 (x6_1 + 1)), (by first | rfl | (simp; done) | (simp [*]; done)), H', ⟨by have := HK1.out; have := HK2.out; omega⟩, ⟨by (with_reducible repeat (first | apply Kd.R_alloc | apply Kd.R_drewN | apply Kd.R_drew)); exact Kd.R_mono HO_7.out (fun _ hk => trivial)⟩, ⟨by (with_reducible repeat (first | refine blk_drewN ?_ _ | refine blk_drew ?_ | refine blk_alloc ?_ _)); exact BK450.out⟩, ⟨by repeat (first | (with_reducible first | exact HB.out | apply below_alloc | apply pw_below_drewN | apply below_drew1 | refine below_set ?_ GE450.out) | exact HB.out)⟩⟩
         ·
          rw [if_neg c20] at H
          have c20b0 : ((x5_1.length : Int) == 0) = false := beq_eq_false_iff_ne.mpr c20
          have c20b1 : ((x5_1.length : Int) != 0) = true := bne_iff_ne.mpr c20
          have c20b2 : ¬ (x5_1 = []) := fun h_ => c20 (by rw [h_]; rfl)
          replace H := Option.bind_eq_some_iff.mp H
          obtain ⟨t455, A250, H⟩ := H
          replace H : (if t455 = true then (kingpinref08_Reason.l0 k2 a1 x7_2 (wrap64 (x6_1 + 1)) a0_0 l0_1) else (kingpinref08_Reason.l0 k2 a1 x5_1 (wrap64 (x6_1 + 1)) a0_0 l0_1)) = some r := H
          have A25 := Aside0.mk A250
          clear A250
          by_cases c26 : t455 = true
          ·
           subst c26
           have H1 : (kingpinref08_Reason.l0 k2 a1 x7_2 (wrap64 (x6_1 + 1)) a0_0 l0_1) = some r := by rw [if_pos rfl] at H; exact H
           clear H
           have H := H1
           clear H1
           have H' := Aside0.mk H
           clear H
           have hcz27_0 : wr.cell? ⟨gb450, 0, none⟩ = some (.int .i64 a0_0) := (blk_cell BK450.out 0).trans rfl
           have hcz27_1 : wr.cell? ⟨gb450, 1, none⟩ = some (.slice A0_1 l0_1.length c0_1) := (blk_cell BK450.out 1).trans rfl
           have hfz27_0 := blk_frozen BK450.out 0
           have hfz27_1 := blk_frozen BK450.out 1
           obtain ⟨Ao28, co28, eo28⟩ := Kd.R_slice HO_7.out
           subst eo28
           go_wp2_with (first | ((with_reducible refine gate_callee (f := 41) rfl ?_); refine goesL_ (some 36) rfl rfl Try.func41 (by kernel_rfl) rfl #[.agg #[.int .i64 a0_0, .slice A0_1 l0_1.length c0_1], .int .i64 a1, .slice Ao28 x7_2.length co28] rfl (by (try simp only [List.map_toArray, List.map_cons, List.map_nil]); first | done | rfl | (simp only [List.length_drop, List.length_take]; rfl)) ?_; (with_reducible refine (kingpinref08_RulesOut.calls a0_0 _ _ l0_1 a1 _ _ x7_2 true _ ?side1 ?side2 ?side3 ?side4 A18.out).mono ?_); (case side1 => repeat (first | exact (Kd.C_below HR0_1.out HB.out) | (with_reducible refine Kd.C_alloc ?_ _) | (with_reducible refine Kd.C_drewN ?_ _) | (with_reducible refine Kd.C_drew ?_))); (case side2 => exact HC0_1.out); (case side3 => repeat (first | exact (Kd.R_reads' HO_7.out).2.2 | (with_reducible refine Kd.C_alloc ?_ _) | (with_reducible refine Kd.C_drewN ?_ _) | (with_reducible refine Kd.C_drew ?_))); (case side4 => exact (Kd.R_reads' HO_7.out).2.1); rintro e w29 ⟨rfl, hb⟩; refine ⟨_, rfl, ?_⟩; have n0_ := Aside0.mk (Kd.R_below (by (with_reducible repeat (first | apply Kd.R_alloc | apply Kd.R_drewN | apply Kd.R_drew)); exact HO_5.out) hb); have n1_ := Aside0.mk (Kd.R_below (by (with_reducible repeat (first | apply Kd.R_alloc | apply Kd.R_drewN | apply Kd.R_drew)); exact HO_7.out) hb); have n2_ := Aside0.mk (blk_below (g := gb450) (o := .cells #[.int .i64 a0_0, .slice A0_1 l0_1.length c0_1] 24 (0, 0)) (by (with_reducible repeat (first | refine blk_drewN ?_ _ | refine blk_drew ?_ | refine blk_alloc ?_ _)); exact BK450.out) hb); have n3_ := Aside0.mk (below_step (by repeat (first | (with_reducible first | exact HB.out | apply below_alloc | apply pw_below_drewN | apply below_drew1 | refine below_set ?_ GE450.out) | exact HB.out)) hb); clear HO_5; clear HO_7; clear BK450; clear HB; have HO_5 := n0_; have HO_7 := n1_; have BK450 := n2_; have HB := n3_; clear n0_ n1_ n2_ n3_; (try clear hb); (try clear hb2); (try clear hk); (try clear hi); obtain ⟨Ao30, co30, eo30⟩ := Kd.R_slice HO_5.out; subst eo30) | (go_at_call 79; (with_reducible refine (kingpinref08_Less.calls k2 _ _ x7_2 _ _ x5_1 true _ ?side1 ?side2 ?side3 ?side4 A25.out).mono ?_); (case side1 => repeat (first | exact (Kd.R_reads' HO_7.out).2.2 | (with_reducible refine Kd.C_alloc ?_ _) | (with_reducible refine Kd.C_drewN ?_ _) | (with_reducible refine Kd.C_drew ?_))); (case side2 => exact (Kd.R_reads' HO_7.out).2.1); (case side3 => repeat (first | exact (Kd.R_reads' HO_5.out).2.2 | (with_reducible refine Kd.C_alloc ?_ _) | (with_reducible refine Kd.C_drewN ?_ _) | (with_reducible refine Kd.C_drew ?_))); (case side4 => exact (Kd.R_reads' HO_5.out).2.1); rintro e w' ⟨rfl, ⟨nd, rfl⟩⟩))
           go_roundg k2
           case measure => have := HK1.out; have := HK2.out; omega
           case rel => exact ⟨(x7_2), (wrap64 (x6_1 + 1)), (by first | rfl | (simp; done) | (simp [*]; done)), H', ⟨by have := HK1.out; have := HK2.out; omega⟩, ⟨by (with_reducible repeat (first | apply Kd.R_alloc | apply Kd.R_drewN | apply Kd.R_drew)); exact Kd.R_mono HO_7.out (fun _ hk => trivial)⟩, ⟨by (with_reducible repeat (first | refine blk_drewN ?_ _ | refine blk_drew ?_ | refine blk_alloc ?_ _)); exact BK450.out⟩, ⟨by repeat (first | (with_reducible first | exact HB.out | apply below_alloc | apply pw_below_drewN | apply below_drew1 | refine below_set ?_ GE450.out) | exact HB.out)⟩⟩
          ·
           replace c26 := Bool.eq_false_iff.mpr c26
           subst c26
           have H1 : (kingpinref08_Reason.l0 k2 a1 x5_1 (wrap64 (x6_1 + 1)) a0_0 l0_1) = some r := by rw [if_neg (show ¬ (false = true) by decide)] at H; exact H
           clear H
           have H := H1
           clear H1
           have H' := Aside0.mk H
           clear H
           have hcz31_0 : wr.cell? ⟨gb450, 0, none⟩ = some (.int .i64 a0_0) := (blk_cell BK450.out 0).trans rfl
           have hcz31_1 : wr.cell? ⟨gb450, 1, none⟩ = some (.slice A0_1 l0_1.length c0_1) := (blk_cell BK450.out 1).trans rfl
           have hfz31_0 := blk_frozen BK450.out 0
           have hfz31_1 := blk_frozen BK450.out 1
           obtain ⟨Ao32, co32, eo32⟩ := Kd.R_slice HO_7.out
           subst eo32
           go_wp2_with (first | ((with_reducible refine gate_callee (f := 41) rfl ?_); refine goesL_ (some 36) rfl rfl Try.func41 (by kernel_rfl) rfl #[.agg #[.int .i64 a0_0, .slice A0_1 l0_1.length c0_1], .int .i64 a1, .slice Ao32 x7_2.length co32] rfl (by (try simp only [List.map_toArray, List.map_cons, List.map_nil]); first | done | rfl | (simp only [List.length_drop, List.length_take]; rfl)) ?_; (with_reducible refine (kingpinref08_RulesOut.calls a0_0 _ _ l0_1 a1 _ _ x7_2 true _ ?side1 ?side2 ?side3 ?side4 A18.out).mono ?_); (case side1 => repeat (first | exact (Kd.C_below HR0_1.out HB.out) | (with_reducible refine Kd.C_alloc ?_ _) | (with_reducible refine Kd.C_drewN ?_ _) | (with_reducible refine Kd.C_drew ?_))); (case side2 => exact HC0_1.out); (case side3 => repeat (first | exact (Kd.R_reads' HO_7.out).2.2 | (with_reducible refine Kd.C_alloc ?_ _) | (with_reducible refine Kd.C_drewN ?_ _) | (with_reducible refine Kd.C_drew ?_))); (case side4 => exact (Kd.R_reads' HO_7.out).2.1); rintro e w33 ⟨rfl, hb⟩; refine ⟨_, rfl, ?_⟩; have n0_ := Aside0.mk (Kd.R_below (by (with_reducible repeat (first | apply Kd.R_alloc | apply Kd.R_drewN | apply Kd.R_drew)); exact HO_5.out) hb); have n1_ := Aside0.mk (Kd.R_below (by (with_reducible repeat (first | apply Kd.R_alloc | apply Kd.R_drewN | apply Kd.R_drew)); exact HO_7.out) hb); have n2_ := Aside0.mk (blk_below (g := gb450) (o := .cells #[.int .i64 a0_0, .slice A0_1 l0_1.length c0_1] 24 (0, 0)) (by (with_reducible repeat (first | refine blk_drewN ?_ _ | refine blk_drew ?_ | refine blk_alloc ?_ _)); exact BK450.out) hb); have n3_ := Aside0.mk (below_step (by repeat (first | (with_reducible first | exact HB.out | apply below_alloc | apply pw_below_drewN | apply below_drew1 | refine below_set ?_ GE450.out) | exact HB.out)) hb); clear HO_5; clear HO_7; clear BK450; clear HB; have HO_5 := n0_; have HO_7 := n1_; have BK450 := n2_; have HB := n3_; clear n0_ n1_ n2_ n3_; (try clear hb); (try clear hb2); (try clear hk); (try clear hi); obtain ⟨Ao34, co34, eo34⟩ := Kd.R_slice HO_5.out; subst eo34) | (go_at_call 79; (with_reducible refine (kingpinref08_Less.calls k2 _ _ x7_2 _ _ x5_1 false _ ?side1 ?side2 ?side3 ?side4 A25.out).mono ?_); (case side1 => repeat (first | exact (Kd.R_reads' HO_7.out).2.2 | (with_reducible refine Kd.C_alloc ?_ _) | (with_reducible refine Kd.C_drewN ?_ _) | (with_reducible refine Kd.C_drew ?_))); (case side2 => exact (Kd.R_reads' HO_7.out).2.1); (case side3 => repeat (first | exact (Kd.R_reads' HO_5.out).2.2 | (with_reducible refine Kd.C_alloc ?_ _) | (with_reducible refine Kd.C_drewN ?_ _) | (with_reducible refine Kd.C_drew ?_))); (case side4 => exact (Kd.R_reads' HO_5.out).2.1); rintro e w' ⟨rfl, ⟨nd, rfl⟩⟩))
           go_roundg k2
           case measure => have := HK1.out; have := HK2.out; omega
           case rel => exact ⟨(x5_1), (wrap64 (x6_1 + 1)), (by first | rfl | (simp; done) | (simp [*]; done)), H', ⟨by have := HK1.out; have := HK2.out; omega⟩, ⟨by (with_reducible repeat (first | apply Kd.R_alloc | apply Kd.R_drewN | apply Kd.R_drew)); exact Kd.R_mono HO_5.out (fun _ hk => trivial)⟩, ⟨by (with_reducible repeat (first | refine blk_drewN ?_ _ | refine blk_drew ?_ | refine blk_alloc ?_ _)); exact BK450.out⟩, ⟨by repeat (first | (with_reducible first | exact HB.out | apply below_alloc | apply pw_below_drewN | apply below_drew1 | refine below_set ?_ GE450.out) | exact HB.out)⟩⟩
        ·
         replace c19 := Bool.eq_false_iff.mpr c19
         subst c19
         have H1 : (kingpinref08_Reason.l0 k2 a1 x5_1 (wrap64 (x6_1 + 1)) a0_0 l0_1) = some r := by rw [if_neg (show ¬ (false = true) by decide)] at H; exact H
         clear H
         have H := H1
         clear H1
         have H' := Aside0.mk H
         clear H
         have hcz35_0 : wr.cell? ⟨gb450, 0, none⟩ = some (.int .i64 a0_0) := (blk_cell BK450.out 0).trans rfl
         have hcz35_1 : wr.cell? ⟨gb450, 1, none⟩ = some (.slice A0_1 l0_1.length c0_1) := (blk_cell BK450.out 1).trans rfl
         have hfz35_0 := blk_frozen BK450.out 0
         have hfz35_1 := blk_frozen BK450.out 1
         obtain ⟨Ao36, co36, eo36⟩ := Kd.R_slice HO_7.out
         subst eo36
         go_wp2_with (first | ((with_reducible refine gate_callee (f := 41) rfl ?_); refine goesL_ (some 36) rfl rfl Try.func41 (by kernel_rfl) rfl #[.agg #[.int .i64 a0_0, .slice A0_1 l0_1.length c0_1], .int .i64 a1, .slice Ao36 x7_2.length co36] rfl (by (try simp only [List.map_toArray, List.map_cons, List.map_nil]); first | done | rfl | (simp only [List.length_drop, List.length_take]; rfl)) ?_; (with_reducible refine (kingpinref08_RulesOut.calls a0_0 _ _ l0_1 a1 _ _ x7_2 false _ ?side1 ?side2 ?side3 ?side4 A18.out).mono ?_); (case side1 => repeat (first | exact (Kd.C_below HR0_1.out HB.out) | (with_reducible refine Kd.C_alloc ?_ _) | (with_reducible refine Kd.C_drewN ?_ _) | (with_reducible refine Kd.C_drew ?_))); (case side2 => exact HC0_1.out); (case side3 => repeat (first | exact (Kd.R_reads' HO_7.out).2.2 | (with_reducible refine Kd.C_alloc ?_ _) | (with_reducible refine Kd.C_drewN ?_ _) | (with_reducible refine Kd.C_drew ?_))); (case side4 => exact (Kd.R_reads' HO_7.out).2.1); rintro e w37 ⟨rfl, hb⟩; refine ⟨_, rfl, ?_⟩; have n0_ := Aside0.mk (Kd.R_below (by (with_reducible repeat (first | apply Kd.R_alloc | apply Kd.R_drewN | apply Kd.R_drew)); exact HO_5.out) hb); have n1_ := Aside0.mk (Kd.R_below (by (with_reducible repeat (first | apply Kd.R_alloc | apply Kd.R_drewN | apply Kd.R_drew)); exact HO_7.out) hb); have n2_ := Aside0.mk (blk_below (g := gb450) (o := .cells #[.int .i64 a0_0, .slice A0_1 l0_1.length c0_1] 24 (0, 0)) (by (with_reducible repeat (first | refine blk_drewN ?_ _ | refine blk_drew ?_ | refine blk_alloc ?_ _)); exact BK450.out) hb); have n3_ := Aside0.mk (below_step (by repeat (first | (with_reducible first | exact HB.out | apply below_alloc | apply pw_below_drewN | apply below_drew1 | refine below_set ?_ GE450.out) | exact HB.out)) hb); clear HO_5; clear HO_7; clear BK450; clear HB; have HO_5 := n0_; have HO_7 := n1_; have BK450 := n2_; have HB := n3_; clear n0_ n1_ n2_ n3_; (try clear hb); (try clear hb2); (try clear hk); (try clear hi)))
         go_roundg k2
         case measure => have := HK1.out; have := HK2.out; omega
         case rel => exact ⟨(x5_1), (wrap64 (x6_1 + 1)), (by first | rfl | (simp; done) | (simp [*]; done)), H', ⟨by have := HK1.out; have := HK2.out; omega⟩, ⟨by (with_reducible repeat (first | apply Kd.R_alloc | apply Kd.R_drewN | apply Kd.R_drew)); exact Kd.R_mono HO_5.out (fun _ hk => trivial)⟩, ⟨by (with_reducible repeat (first | refine blk_drewN ?_ _ | refine blk_drew ?_ | refine blk_alloc ?_ _)); exact BK450.out⟩, ⟨by repeat (first | (with_reducible first | exact HB.out | apply below_alloc | apply pw_below_drewN | apply below_drew1 | refine below_set ?_ GE450.out) | exact HB.out)⟩⟩
    ·
     rw [if_neg c7] at H
     have c7b0 : decide (x6_1 < (ji6)) = false := decide_eq_false c7
     clear c7
     obtain rfl := Option.some.inj H
     have hcz38_0 : wr.cell? ⟨gb450, 0, none⟩ = some (.int .i64 a0_0) := (blk_cell BK450.out 0).trans rfl
     have hcz38_1 : wr.cell? ⟨gb450, 1, none⟩ = some (.slice A0_1 l0_1.length c0_1) := (blk_cell BK450.out 1).trans rfl
     have hfz38_0 := blk_frozen BK450.out 0
     have hfz38_1 := blk_frozen BK450.out 1
     go_wp2
     go_ret
     exact ⟨_, by first | rfl | (simp [errW_none, errW_some] <;> rfl) | (simp only [← hji4, ← hji6]; first | rfl | (simp [errW_none, errW_some] <;> rfl)) | (simp [*, errW_none, errW_some] <;> rfl), by (with_reducible repeat (first | apply Kd.R_alloc | apply Kd.R_drewN | apply Kd.R_drew)); exact HO_5.out, by repeat (first | (with_reducible first | exact HB.out | apply below_alloc | apply pw_below_drewN | apply below_drew1 | refine below_set ?_ GE450.out) | exact HB.out)⟩
   ·
    rw [if_neg c5] at H
    exact absurd H (by simp)
end Go.Proofs.Ytmnamkcjldaoeaa.PAll
namespace Go.Proofs.Ytmnamkcjldaoeaa.PAll
open Go.RowKit Go.Proofs.YtmnamkcjldaoeaaW.PrintWords Go.Proofs.YtmnamkcjldaoeaaW.PrintLast Go.Proofs.YtmnamkcjldaoeaaW.PrintMore
theorem RulesOut_ev (n : Int) (l : List S70) (hc : checkF n (l.map toG) = 0) (t : Int) (h0 : 0 ≤ t) (xs : List Int) (hx : xs.length ≤ 1000) : Ev (fun _ => kingpinref08_RulesOut.f n l t xs) (okFrom n t xs 0 xs.length && ruledF (reachF (l.map toG) t) (sumsF (l.map toG)) (openG (l.map toG)) xs) := by
 unfold kingpinref08_RulesOut.f
 rw [if_pos ⟨hc, h0, hx⟩]
 exact Ev.now _
end Go.Proofs.Ytmnamkcjldaoeaa.PAll
namespace Go.Proofs.Ytmnamkcjldaoeaa.PAll
open Go.RowKit Go.Proofs.YtmnamkcjldaoeaaW.PrintWords Go.Proofs.YtmnamkcjldaoeaaW.PrintLast Go.Proofs.YtmnamkcjldaoeaaW.PrintMore
attribute [local go_sem] max2_int min2_int max_two min_two max_three min_three max_four min_four   -- for this text's walks alone
set_option linter.unusedVariables false
set_option linter.unusedSimpArgs false
mutual
def kingpinlaw08_LeagueReasons.j0 : Nat → Int → List Int → Bool → Int → List (S70) → Option (Bool)
 | 0, _, _, _, _, _ => none
 | k + 1, x1, x2, x19, x457000, x457001 => if x19 = true then ((kingpinlaw08_awake.f).bind fun t458 => (some t458)) else ((kingpinlaw08_League.f k x457000 x457001).bind fun bt459 => ((league_Reason.f bt459.1 bt459.2 x1).bind fun bt463 => ((kingpinlaw08_League.f k x457000 x457001).bind fun bt467 => ((kingpinlaw08_list.f x2).bind fun t471 => ((league_RulesOut.f bt467.1 bt467.2 x1 t471).bind fun t474 => ((kingpinlaw08_teamed.f x457000 x457001 x1).bind fun t475 => (if t475 = 0 then ((kingpinref08_RulesOut.f x457000 x457001 x1 x2).bind fun t476 => (kingpinlaw08_LeagueReasons.j1 k x1 bt463.1 bt463.2 t475 (t474 != t476) x457000 x457001)) else (kingpinlaw08_LeagueReasons.j1 k x1 bt463.1 bt463.2 t475 (t474 != false) x457000 x457001))))))))
def kingpinlaw08_LeagueReasons.j1 : Nat → Int → List Int → Int → Int → Bool → Int → List (S70) → Option (Bool)
 | 0, _, _, _, _, _, _, _ => none
 | k + 1, x1, x7, x8, x10, x46, x457000, x457001 => if x46 = true then (some false) else (if x10 = 0 then ((kingpinref08_Reason.f k x457000 x457001 x1).bind fun t477 => (if (t477.length : Int) = 0 then (if x8 = 7 then ((kingpinlaw08_ints.f k x7 t477).bind fun t480 => (if t480 = true then ((kingpinlaw08_awake.f).bind fun t481 => (some t481)) else (some false))) else (some false)) else (if x8 = x10 then ((kingpinlaw08_ints.f k x7 t477).bind fun t482 => (if t482 = true then ((kingpinlaw08_awake.f).bind fun t483 => (some t483)) else (some false))) else (some false)))) else (if x8 = x10 then ((kingpinlaw08_ints.f k x7 ([] : List Int)).bind fun t484 => (if t484 = true then ((kingpinlaw08_awake.f).bind fun t485 => (some t485)) else (some false))) else (some false)))
end
def kingpinlaw08_LeagueReasons.f (k : Nat) (a0_0 : Int) (l0_1 : List (S70)) (a1 : Int) (l2 : List Int) : Option (Bool) := (kingpinlaw08_Thin.f a0_0 l0_1).bind fun t457 => (if t457 = true then (kingpinlaw08_LeagueReasons.j0 k a1 l2 (decide ((l2.length : Int) > 9)) a0_0 l0_1) else (kingpinlaw08_LeagueReasons.j0 k a1 l2 true a0_0 l0_1))
set_option maxHeartbeats 8000000 in
set_option maxRecDepth 100000 in
theorem kingpinlaw08_LeagueReasons.calls (k : Nat) (a0_0 : Int) (A0_1 : Option Addr) (c0_1 : Nat) (l0_1 : List (S70)) (a1 : Int) (A2 : Option Addr) (c2 : Nat) (l2 : List Int) (r : Bool) (w : World) (hr0_1 : Kd.C k70 w A0_1 l0_1.length l0_1) (hc0_1 : l0_1.length ≤ c0_1) (hr2 : Kd.C (Kd.int .i64) w A2 l2.length l2) (hc2 : l2.length ≤ c2) (h : kingpinlaw08_LeagueReasons.f k a0_0 l0_1 a1 l2 = some r) :
  Calls Try.prog 8 #[.agg #[.int .i64 a0_0, .slice A0_1 l0_1.length c0_1], .int .i64 a1, .slice A2 l2.length c2] w fun e w' => e = .returned (.bool r) ∧ Below w.heap.size w w' := by
 have hu24 := Try.underlying24
 have HR0_1 := Aside0.mk hr0_1
 have HC0_1 := Aside0.mk hc0_1
 clear hr0_1 hc0_1
 have HR2 := Aside0.mk hr2
 have HC2 := Aside0.mk hc2
 clear hr2 hc2
 have HB := Aside0.mk (Below.refl w.heap.size w)
 have H : ((kingpinlaw08_Thin.f a0_0 l0_1).bind fun t457 => (if t457 = true then (kingpinlaw08_LeagueReasons.j0 k a1 l2 (decide ((l2.length : Int) > 9)) a0_0 l0_1) else (kingpinlaw08_LeagueReasons.j0 k a1 l2 true a0_0 l0_1))) = some r := h
 clear h
 have HC4 := Aside0.mk H
 clear H
 go_enter Try.func8, Try.ntmps8
 go_upto_region 1 with (first | ((with_reducible refine gate_dst (N := 3) rfl ?_); (try (refine gate_guard (by rfl) ?_; dsimp only)); refine box_event ?hg (N := 3) ?hd (cs := #[.int .i64 a0_0, .slice A0_1 l0_1.length c0_1]) (t := 24) ?hr ?_; (case hd => rfl); (case hg => rfl); (case hr => first | (go_simp; done) | (go_simp; rfl)); intro gb456 hg w5 hbox hb; have n0_ := Aside0.mk (below_step (by repeat (first | (with_reducible first | exact HB.out | apply below_alloc | apply pw_below_drewN | apply below_drew1) | exact HB.out)) hb); have n1_ := Aside0.mk (hbox); have n2_ := Aside0.mk ((by rw [hg]; exact (below_size (by repeat (first | (with_reducible first | exact HB.out | apply below_alloc | apply pw_below_drewN | apply below_drew1) | exact HB.out))) : w.heap.size ≤ gb456)); have n3_ := Aside0.mk ((by rw [hg]; exact (below_size (by repeat (first | (with_reducible first | exact HB.out | apply below_alloc | apply pw_below_drewN | apply below_drew1) | exact HB.out))) : w.heap.size ≤ gb456)); clear HB; have HB := n0_; have BK456 := n1_; have GW456 := n2_; have GE456 := n3_; clear n0_ n1_ n2_ n3_; clear hb hbox hg))
 (try simp only [Act.put, List.setIfInBounds_toArray, List.set_cons_zero, List.set_cons_succ])
 go_cut [19] (fun v19 wc => ∃ (kq : Nat) (x19_3 : Bool), v19 = .bool x19_3 ∧ Aside0 (kingpinlaw08_LeagueReasons.j0 kq a1 l2 x19_3 a0_0 l0_1 = some r) ∧ Aside0 (kq ≤ k) ∧ Aside0 (wc.heap[gb456]? = some (.cells #[.int .i64 a0_0, (.slice A0_1 l0_1.length c0_1)] 24 (0, 0))) ∧ Aside0 (Below w.heap.size w wc))
 case first =>
  have H := HC4.out
  clear HC4
  replace H := Option.bind_eq_some_iff.mp H
  obtain ⟨t457, A60, H⟩ := H
  replace H : (if t457 = true then (kingpinlaw08_LeagueReasons.j0 k a1 l2 (decide ((l2.length : Int) > 9)) a0_0 l0_1) else (kingpinlaw08_LeagueReasons.j0 k a1 l2 true a0_0 l0_1)) = some r := H
  have A6 := Aside0.mk A60
  clear A60
  by_cases c7 : t457 = true
  ·
   subst c7
   have H1 : (kingpinlaw08_LeagueReasons.j0 k a1 l2 (decide ((l2.length : Int) > 9)) a0_0 l0_1) = some r := by rw [if_pos rfl] at H; exact H
   clear H
   have H := H1
   clear H1
   have H' := Aside0.mk H
   clear H
   have hcz8_0 : w5.cell? ⟨gb456, 0, none⟩ = some (.int .i64 a0_0) := (blk_cell BK456.out 0).trans rfl
   have hcz8_1 : w5.cell? ⟨gb456, 1, none⟩ = some (.slice A0_1 l0_1.length c0_1) := (blk_cell BK456.out 1).trans rfl
   have hfz8_0 := blk_frozen BK456.out 0
   have hfz8_1 := blk_frozen BK456.out 1
   go_wp2_with (first | ((with_reducible refine gate_callee (f := 15) rfl ?_); refine goesL_ (some 13) rfl rfl Try.func15 (by kernel_rfl) rfl #[.agg #[.int .i64 a0_0, .slice A0_1 l0_1.length c0_1]] rfl (by (try simp only [List.map_toArray, List.map_cons, List.map_nil]); first | done | rfl | (simp only [List.length_drop, List.length_take]; rfl)) ?_; (with_reducible refine (kingpinlaw08_Thin.calls a0_0 _ _ l0_1 true _ ?side1 ?side2 A6.out).mono ?_); (case side1 => repeat (first | exact (Kd.C_below HR0_1.out HB.out) | (with_reducible refine Kd.C_alloc ?_ _) | (with_reducible refine Kd.C_drewN ?_ _) | (with_reducible refine Kd.C_drew ?_))); (case side2 => exact HC0_1.out); rintro e w9 ⟨rfl, hb⟩; refine ⟨_, rfl, ?_⟩; have n0_ := Aside0.mk (blk_below (g := gb456) (o := .cells #[.int .i64 a0_0, .slice A0_1 l0_1.length c0_1] 24 (0, 0)) (by (with_reducible repeat (first | refine blk_drewN ?_ _ | refine blk_drew ?_ | refine blk_alloc ?_ _)); exact BK456.out) hb); have n1_ := Aside0.mk (below_step (by repeat (first | (with_reducible first | exact HB.out | apply below_alloc | apply pw_below_drewN | apply below_drew1 | refine below_set ?_ GE456.out) | exact HB.out)) hb); clear BK456; clear HB; have BK456 := n0_; have HB := n1_; clear n0_ n1_; (try clear hb); (try clear hb2); (try clear hk); (try clear hi)))
   go_meet
   case rel => exact ⟨_, (decide ((l2.length : Int) > 9)), (by first | rfl | (simp; done) | (simp [*]; done)), H', ⟨by first | omega | exact Nat.le_refl _⟩, ⟨by (with_reducible repeat (first | refine blk_drewN ?_ _ | refine blk_drew ?_ | refine blk_alloc ?_ _)); exact BK456.out⟩, ⟨by repeat (first | (with_reducible first | exact HB.out | apply below_alloc | apply pw_below_drewN | apply below_drew1 | refine below_set ?_ GE456.out) | exact HB.out)⟩⟩
  ·
   replace c7 := Bool.eq_false_iff.mpr c7
   subst c7
   have H1 : (kingpinlaw08_LeagueReasons.j0 k a1 l2 true a0_0 l0_1) = some r := by rw [if_neg (show ¬ (false = true) by decide)] at H; exact H
   clear H
   have H := H1
   clear H1
   have H' := Aside0.mk H
   clear H
   have hcz10_0 : w5.cell? ⟨gb456, 0, none⟩ = some (.int .i64 a0_0) := (blk_cell BK456.out 0).trans rfl
   have hcz10_1 : w5.cell? ⟨gb456, 1, none⟩ = some (.slice A0_1 l0_1.length c0_1) := (blk_cell BK456.out 1).trans rfl
   have hfz10_0 := blk_frozen BK456.out 0
   have hfz10_1 := blk_frozen BK456.out 1
   go_wp2_with (first | ((with_reducible refine gate_callee (f := 15) rfl ?_); refine goesL_ (some 13) rfl rfl Try.func15 (by kernel_rfl) rfl #[.agg #[.int .i64 a0_0, .slice A0_1 l0_1.length c0_1]] rfl (by (try simp only [List.map_toArray, List.map_cons, List.map_nil]); first | done | rfl | (simp only [List.length_drop, List.length_take]; rfl)) ?_; (with_reducible refine (kingpinlaw08_Thin.calls a0_0 _ _ l0_1 false _ ?side1 ?side2 A6.out).mono ?_); (case side1 => repeat (first | exact (Kd.C_below HR0_1.out HB.out) | (with_reducible refine Kd.C_alloc ?_ _) | (with_reducible refine Kd.C_drewN ?_ _) | (with_reducible refine Kd.C_drew ?_))); (case side2 => exact HC0_1.out); rintro e w11 ⟨rfl, hb⟩; refine ⟨_, rfl, ?_⟩; have n0_ := Aside0.mk (blk_below (g := gb456) (o := .cells #[.int .i64 a0_0, .slice A0_1 l0_1.length c0_1] 24 (0, 0)) (by (with_reducible repeat (first | refine blk_drewN ?_ _ | refine blk_drew ?_ | refine blk_alloc ?_ _)); exact BK456.out) hb); have n1_ := Aside0.mk (below_step (by repeat (first | (with_reducible first | exact HB.out | apply below_alloc | apply pw_below_drewN | apply below_drew1 | refine below_set ?_ GE456.out) | exact HB.out)) hb); clear BK456; clear HB; have BK456 := n0_; have HB := n1_; clear n0_ n1_; (try clear hb); (try clear hb2); (try clear hk); (try clear hi)))
   go_meet
   case rel => exact ⟨_, (true), (by first | rfl | (simp; done) | (simp [*]; done)), H', ⟨by first | omega | exact Nat.le_refl _⟩, ⟨by (with_reducible repeat (first | refine blk_drewN ?_ _ | refine blk_drew ?_ | refine blk_alloc ?_ _)); exact BK456.out⟩, ⟨by repeat (first | (with_reducible first | exact HB.out | apply below_alloc | apply pw_below_drewN | apply below_drew1 | refine below_set ?_ GE456.out) | exact HB.out)⟩⟩
 case rest =>
  clear HC4
  try clear c1
  try clear c2
  try clear p2
  try clear c7
  try clear c8
  try clear hcz10_0
  try clear hcz10_1
  try clear hcz8_0
  try clear hcz8_1
  try clear hfz10_0
  try clear hfz10_1
  try clear hfz8_0
  try clear hfz8_1
  obtain ⟨kq, x19_3, rfl, HA, HJ3, BK456, HB⟩ := hcut
  cases kq with
  | zero => exact absurd HA.out (by simp [kingpinlaw08_LeagueReasons.j0])
  | succ kj3 =>
   have H := HA.out
   clear HA
   simp only [kingpinlaw08_LeagueReasons.j0] at H
   by_cases c12 : x19_3 = true
   ·
    subst c12
    have H1 : ((kingpinlaw08_awake.f).bind fun t458 => (some t458)) = some r := by rw [if_pos rfl] at H; exact H
    clear H
    have H := H1
    clear H1
    replace H := Option.bind_eq_some_iff.mp H
    obtain ⟨t458, A130, H⟩ := H
    replace H : (some t458) = some r := H
    have A13 := Aside0.mk A130
    clear A130
    obtain rfl := Option.some.inj H
    go_wp2_with (first | ((with_reducible refine gate_callee (f := 16) rfl ?_); refine goesL_ (some 20) rfl rfl Try.func16 (by kernel_rfl) rfl #[] rfl (by (try simp only [List.map_toArray, List.map_cons, List.map_nil]); first | done | rfl | (simp only [List.length_drop, List.length_take]; rfl)) ?_; (with_reducible refine (kingpinlaw08_awake.calls  t458 _ A13.out).mono ?_); rintro e w14 ⟨rfl, hb⟩; refine ⟨_, rfl, ?_⟩; have n0_ := Aside0.mk (blk_below (g := gb456) (o := .cells #[.int .i64 a0_0, .slice A0_1 l0_1.length c0_1] 24 (0, 0)) (by (with_reducible repeat (first | refine blk_drewN ?_ _ | refine blk_drew ?_ | refine blk_alloc ?_ _)); exact BK456.out) hb); have n1_ := Aside0.mk (below_step (by repeat (first | (with_reducible first | exact HB.out | apply below_alloc | apply pw_below_drewN | apply below_drew1 | refine below_set ?_ GE456.out) | exact HB.out)) hb); clear BK456; clear HB; have BK456 := n0_; have HB := n1_; clear n0_ n1_; (try clear hb); (try clear hb2); (try clear hk); (try clear hi)))
    go_ret
    exact ⟨by first | rfl | (simp [errW_none, errW_some] <;> rfl) | (simp [*, errW_none, errW_some] <;> rfl), by repeat (first | (with_reducible first | exact HB.out | apply below_alloc | apply pw_below_drewN | apply below_drew1 | refine below_set ?_ GE456.out) | exact HB.out)⟩
   ·
    replace c12 := Bool.eq_false_iff.mpr c12
    subst c12
    have H1 : ((kingpinlaw08_League.f kj3 a0_0 l0_1).bind fun bt459 => ((league_Reason.f bt459.1 bt459.2 a1).bind fun bt463 => ((kingpinlaw08_League.f kj3 a0_0 l0_1).bind fun bt467 => ((kingpinlaw08_list.f l2).bind fun t471 => ((league_RulesOut.f bt467.1 bt467.2 a1 t471).bind fun t474 => ((kingpinlaw08_teamed.f a0_0 l0_1 a1).bind fun t475 => (if t475 = 0 then ((kingpinref08_RulesOut.f a0_0 l0_1 a1 l2).bind fun t476 => (kingpinlaw08_LeagueReasons.j1 kj3 a1 bt463.1 bt463.2 t475 (t474 != t476) a0_0 l0_1)) else (kingpinlaw08_LeagueReasons.j1 kj3 a1 bt463.1 bt463.2 t475 (t474 != false) a0_0 l0_1)))))))) = some r := by rw [if_neg (show ¬ (false = true) by decide)] at H; exact H
    clear H
    have H := H1
    clear H1
    replace H := Option.bind_eq_some_iff.mp H
    obtain ⟨⟨t459, t460⟩, A150, H⟩ := H
    replace H : ((league_Reason.f t459 t460 a1).bind fun bt463 => ((kingpinlaw08_League.f kj3 a0_0 l0_1).bind fun bt467 => ((kingpinlaw08_list.f l2).bind fun t471 => ((league_RulesOut.f bt467.1 bt467.2 a1 t471).bind fun t474 => ((kingpinlaw08_teamed.f a0_0 l0_1 a1).bind fun t475 => (if t475 = 0 then ((kingpinref08_RulesOut.f a0_0 l0_1 a1 l2).bind fun t476 => (kingpinlaw08_LeagueReasons.j1 kj3 a1 bt463.1 bt463.2 t475 (t474 != t476) a0_0 l0_1)) else (kingpinlaw08_LeagueReasons.j1 kj3 a1 bt463.1 bt463.2 t475 (t474 != false) a0_0 l0_1))))))) = some r := H
    have A15 := Aside0.mk A150
    clear A150
    replace H := Option.bind_eq_some_iff.mp H
    obtain ⟨⟨t463, t466⟩, A160, H⟩ := H
    replace H : ((kingpinlaw08_League.f kj3 a0_0 l0_1).bind fun bt467 => ((kingpinlaw08_list.f l2).bind fun t471 => ((league_RulesOut.f bt467.1 bt467.2 a1 t471).bind fun t474 => ((kingpinlaw08_teamed.f a0_0 l0_1 a1).bind fun t475 => (if t475 = 0 then ((kingpinref08_RulesOut.f a0_0 l0_1 a1 l2).bind fun t476 => (kingpinlaw08_LeagueReasons.j1 kj3 a1 t463 t466 t475 (t474 != t476) a0_0 l0_1)) else (kingpinlaw08_LeagueReasons.j1 kj3 a1 t463 t466 t475 (t474 != false) a0_0 l0_1)))))) = some r := H
    have A16 := Aside0.mk A160
    clear A160
    replace H := Option.bind_eq_some_iff.mp H
    obtain ⟨⟨t467, t468⟩, A170, H⟩ := H
    replace H : ((kingpinlaw08_list.f l2).bind fun t471 => ((league_RulesOut.f t467 t468 a1 t471).bind fun t474 => ((kingpinlaw08_teamed.f a0_0 l0_1 a1).bind fun t475 => (if t475 = 0 then ((kingpinref08_RulesOut.f a0_0 l0_1 a1 l2).bind fun t476 => (kingpinlaw08_LeagueReasons.j1 kj3 a1 t463 t466 t475 (t474 != t476) a0_0 l0_1)) else (kingpinlaw08_LeagueReasons.j1 kj3 a1 t463 t466 t475 (t474 != false) a0_0 l0_1))))) = some r := H
    have A17 := Aside0.mk A170
    clear A170
    replace H := Option.bind_eq_some_iff.mp H
    obtain ⟨t471, A180, H⟩ := H
    replace H : ((league_RulesOut.f t467 t468 a1 t471).bind fun t474 => ((kingpinlaw08_teamed.f a0_0 l0_1 a1).bind fun t475 => (if t475 = 0 then ((kingpinref08_RulesOut.f a0_0 l0_1 a1 l2).bind fun t476 => (kingpinlaw08_LeagueReasons.j1 kj3 a1 t463 t466 t475 (t474 != t476) a0_0 l0_1)) else (kingpinlaw08_LeagueReasons.j1 kj3 a1 t463 t466 t475 (t474 != false) a0_0 l0_1)))) = some r := H
    have A18 := Aside0.mk A180
    clear A180
    replace H := Option.bind_eq_some_iff.mp H
    obtain ⟨t474, A190, H⟩ := H
    replace H : ((kingpinlaw08_teamed.f a0_0 l0_1 a1).bind fun t475 => (if t475 = 0 then ((kingpinref08_RulesOut.f a0_0 l0_1 a1 l2).bind fun t476 => (kingpinlaw08_LeagueReasons.j1 kj3 a1 t463 t466 t475 (t474 != t476) a0_0 l0_1)) else (kingpinlaw08_LeagueReasons.j1 kj3 a1 t463 t466 t475 (t474 != false) a0_0 l0_1))) = some r := H
    have A19 := Aside0.mk A190
    clear A190
    replace H := Option.bind_eq_some_iff.mp H
    obtain ⟨t475, A200, H⟩ := H
    replace H : (if t475 = 0 then ((kingpinref08_RulesOut.f a0_0 l0_1 a1 l2).bind fun t476 => (kingpinlaw08_LeagueReasons.j1 kj3 a1 t463 t466 t475 (t474 != t476) a0_0 l0_1)) else (kingpinlaw08_LeagueReasons.j1 kj3 a1 t463 t466 t475 (t474 != false) a0_0 l0_1)) = some r := H
    have A20 := Aside0.mk A200
    clear A200
    have HC21 := Aside0.mk H
    clear H
    have hcz22_0 : wc.cell? ⟨gb456, 0, none⟩ = some (.int .i64 a0_0) := (blk_cell BK456.out 0).trans rfl
    have hcz22_1 : wc.cell? ⟨gb456, 1, none⟩ = some (.slice A0_1 l0_1.length c0_1) := (blk_cell BK456.out 1).trans rfl
    have hfz22_0 := blk_frozen BK456.out 0
    have hfz22_1 := blk_frozen BK456.out 1
    go_upto_region 6 with (first | ((with_reducible refine gate_callee (f := 18) rfl ?_); refine goesL_ (some 23) rfl rfl Try.func18 (by kernel_rfl) rfl #[.agg #[.int .i64 a0_0, .slice A0_1 l0_1.length c0_1]] rfl (by (try simp only [List.map_toArray, List.map_cons, List.map_nil]); first | done | rfl | (simp only [List.length_drop, List.length_take]; rfl)) ?_; (with_reducible refine (kingpinlaw08_League.calls kj3 a0_0 _ _ l0_1 t459 t460 _ ?side1 ?side2 A15.out).mono ?_); (case side1 => repeat (first | exact (Kd.C_below HR0_1.out HB.out) | (with_reducible refine Kd.C_alloc ?_ _) | (with_reducible refine Kd.C_drewN ?_ _) | (with_reducible refine Kd.C_drew ?_))); (case side2 => exact HC0_1.out); rintro e w23 ⟨v461, rfl, ho0, hb⟩; refine ⟨_, rfl, ?_⟩; have n0_ := Aside0.mk (Kd.R_lower ho0 (below_size (by repeat (first | (with_reducible first | exact HB.out | apply below_alloc | apply pw_below_drewN | apply below_drew1 | refine below_set ?_ GE456.out) | exact HB.out)))); have n1_ := Aside0.mk (blk_below (g := gb456) (o := .cells #[.int .i64 a0_0, .slice A0_1 l0_1.length c0_1] 24 (0, 0)) (by (with_reducible repeat (first | refine blk_drewN ?_ _ | refine blk_drew ?_ | refine blk_alloc ?_ _)); exact BK456.out) hb); have n2_ := Aside0.mk (below_step (by repeat (first | (with_reducible first | exact HB.out | apply below_alloc | apply pw_below_drewN | apply below_drew1 | refine below_set ?_ GE456.out) | exact HB.out)) hb); clear BK456; clear HB; have HO462 := n0_; have BK456 := n1_; have HB := n2_; clear n0_ n1_ n2_; (try clear hb); (try clear hb2); (try clear hk); (try clear hi); (try clear ho0); obtain ⟨Ao24, co24, eo24⟩ := Kd.R_slice HO462.out; subst eo24) | ((with_reducible refine gate_callee (f := 37) rfl ?_); refine goesL_ (some 25) rfl rfl Try.func37 (by kernel_rfl) rfl #[.agg #[.int .i64 t459, .slice Ao24 t460.length co24], .int .i64 a1] rfl (by (try simp only [List.map_toArray, List.map_cons, List.map_nil]); first | done | rfl | (simp only [List.length_drop, List.length_take]; rfl)) ?_; (with_reducible refine (league_Reason.calls t459 _ _ t460 a1 t463 t466 _ ?side1 ?side2 A16.out).mono ?_); (case side1 => repeat (first | exact (Kd.R_reads' HO462.out).2.2 | (with_reducible refine Kd.C_alloc ?_ _) | (with_reducible refine Kd.C_drewN ?_ _) | (with_reducible refine Kd.C_drew ?_))); (case side2 => exact (Kd.R_reads' HO462.out).2.1); rintro e w25 ⟨v464, rfl, ho0, hb⟩; refine ⟨_, rfl, ?_⟩; have n0_ := Aside0.mk (Kd.R_below (by (with_reducible repeat (first | apply Kd.R_alloc | apply Kd.R_drewN | apply Kd.R_drew)); exact HO462.out) hb); have n1_ := Aside0.mk (Kd.R_lower ho0 (below_size (by repeat (first | (with_reducible first | exact HB.out | apply below_alloc | apply pw_below_drewN | apply below_drew1 | refine below_set ?_ GE456.out) | exact HB.out)))); have n2_ := Aside0.mk (blk_below (g := gb456) (o := .cells #[.int .i64 a0_0, .slice A0_1 l0_1.length c0_1] 24 (0, 0)) (by (with_reducible repeat (first | refine blk_drewN ?_ _ | refine blk_drew ?_ | refine blk_alloc ?_ _)); exact BK456.out) hb); have n3_ := Aside0.mk (below_step (by repeat (first | (with_reducible first | exact HB.out | apply below_alloc | apply pw_below_drewN | apply below_drew1 | refine below_set ?_ GE456.out) | exact HB.out)) hb); clear HO462; clear BK456; clear HB; have HO462 := n0_; have HO465 := n1_; have BK456 := n2_; have HB := n3_; clear n0_ n1_ n2_ n3_; (try clear hb); (try clear hb2); (try clear hk); (try clear hi); (try clear ho0); have hcz26_0 : w25.cell? ⟨gb456, 0, none⟩ = some (.int .i64 a0_0) := (blk_cell BK456.out 0).trans rfl; have hcz26_1 : w25.cell? ⟨gb456, 1, none⟩ = some (.slice A0_1 l0_1.length c0_1) := (blk_cell BK456.out 1).trans rfl; have hfz26_0 := blk_frozen BK456.out 0; have hfz26_1 := blk_frozen BK456.out 1) | ((with_reducible refine gate_callee (f := 18) rfl ?_); refine goesL_ (some 29) rfl rfl Try.func18 (by kernel_rfl) rfl #[.agg #[.int .i64 a0_0, .slice A0_1 l0_1.length c0_1]] rfl (by (try simp only [List.map_toArray, List.map_cons, List.map_nil]); first | done | rfl | (simp only [List.length_drop, List.length_take]; rfl)) ?_; (with_reducible refine (kingpinlaw08_League.calls kj3 a0_0 _ _ l0_1 t467 t468 _ ?side1 ?side2 A17.out).mono ?_); (case side1 => repeat (first | exact (Kd.C_below HR0_1.out HB.out) | (with_reducible refine Kd.C_alloc ?_ _) | (with_reducible refine Kd.C_drewN ?_ _) | (with_reducible refine Kd.C_drew ?_))); (case side2 => exact HC0_1.out); rintro e w27 ⟨v469, rfl, ho0, hb⟩; refine ⟨_, rfl, ?_⟩; have n0_ := Aside0.mk (Kd.R_elder' (by (with_reducible repeat (first | apply Kd.R_alloc | apply Kd.R_drewN | apply Kd.R_drew)); exact HO462.out) (Kd.R_base ho0) hb); have n1_ := Aside0.mk (Kd.R_below (by (with_reducible repeat (first | apply Kd.R_alloc | apply Kd.R_drewN | apply Kd.R_drew)); exact HO465.out) hb); have n2_ := Aside0.mk (Kd.R_lower (Kd.R_new' ho0 (Kd.R_lt (by (with_reducible repeat (first | apply Kd.R_alloc | apply Kd.R_drewN | apply Kd.R_drew)); exact HO462.out))) (below_size (by repeat (first | (with_reducible first | exact HB.out | apply below_alloc | apply pw_below_drewN | apply below_drew1 | refine below_set ?_ GE456.out) | exact HB.out)))); have n3_ := Aside0.mk (blk_below (g := gb456) (o := .cells #[.int .i64 a0_0, .slice A0_1 l0_1.length c0_1] 24 (0, 0)) (by (with_reducible repeat (first | refine blk_drewN ?_ _ | refine blk_drew ?_ | refine blk_alloc ?_ _)); exact BK456.out) hb); have n4_ := Aside0.mk (below_step (by repeat (first | (with_reducible first | exact HB.out | apply below_alloc | apply pw_below_drewN | apply below_drew1 | refine below_set ?_ GE456.out) | exact HB.out)) hb); clear HO462; clear HO465; clear BK456; clear HB; have HO462 := n0_; have HO465 := n1_; have HO470 := n2_; have BK456 := n3_; have HB := n4_; clear n0_ n1_ n2_ n3_ n4_; (try clear hb); (try clear hb2); (try clear hk); (try clear hi); (try clear ho0)) | ((with_reducible refine gate_callee (f := 39) rfl ?_); refine goesL_ (some 32) rfl rfl Try.func39 (by kernel_rfl) rfl #[.slice A2 l2.length c2] rfl (by (try simp only [List.map_toArray, List.map_cons, List.map_nil]); first | done | rfl | (simp only [List.length_drop, List.length_take]; rfl)) ?_; (with_reducible refine (kingpinlaw08_list.calls _ _ l2 t471 _ ?side1 ?side2 A18.out).mono ?_); (case side1 => repeat (first | exact (Kd.C_below HR2.out HB.out) | (with_reducible refine Kd.C_alloc ?_ _) | (with_reducible refine Kd.C_drewN ?_ _) | (with_reducible refine Kd.C_drew ?_))); (case side2 => exact HC2.out); rintro e w28 ⟨v472, rfl, ho0, hb⟩; refine ⟨_, rfl, ?_⟩; have n0_ := Aside0.mk (Kd.R_below (by (with_reducible repeat (first | apply Kd.R_alloc | apply Kd.R_drewN | apply Kd.R_drew)); exact HO462.out) hb); have n1_ := Aside0.mk (Kd.R_elder' (by (with_reducible repeat (first | apply Kd.R_alloc | apply Kd.R_drewN | apply Kd.R_drew)); exact HO465.out) (Kd.R_base ho0) hb); have n2_ := Aside0.mk (Kd.R_below (by (with_reducible repeat (first | apply Kd.R_alloc | apply Kd.R_drewN | apply Kd.R_drew)); exact HO470.out) hb); have n3_ := Aside0.mk (Kd.R_lower (Kd.R_new' ho0 (Kd.R_lt (by (with_reducible repeat (first | apply Kd.R_alloc | apply Kd.R_drewN | apply Kd.R_drew)); exact HO465.out))) (below_size (by repeat (first | (with_reducible first | exact HB.out | apply below_alloc | apply pw_below_drewN | apply below_drew1 | refine below_set ?_ GE456.out) | exact HB.out)))); have n4_ := Aside0.mk (blk_below (g := gb456) (o := .cells #[.int .i64 a0_0, .slice A0_1 l0_1.length c0_1] 24 (0, 0)) (by (with_reducible repeat (first | refine blk_drewN ?_ _ | refine blk_drew ?_ | refine blk_alloc ?_ _)); exact BK456.out) hb); have n5_ := Aside0.mk (below_step (by repeat (first | (with_reducible first | exact HB.out | apply below_alloc | apply pw_below_drewN | apply below_drew1 | refine below_set ?_ GE456.out) | exact HB.out)) hb); clear HO462; clear HO465; clear HO470; clear BK456; clear HB; have HO462 := n0_; have HO465 := n1_; have HO470 := n2_; have HO473 := n3_; have BK456 := n4_; have HB := n5_; clear n0_ n1_ n2_ n3_ n4_ n5_; (try clear hb); (try clear hb2); (try clear hk); (try clear hi); (try clear ho0); obtain ⟨Ao29, co29, eo29⟩ := Kd.R_slice HO470.out; subst eo29; obtain ⟨Ao30, co30, eo30⟩ := Kd.R_slice HO473.out; subst eo30) | ((with_reducible refine gate_callee (f := 38) rfl ?_); refine goesL_ (some 33) rfl rfl Try.func38 (by kernel_rfl) rfl #[.agg #[.int .i64 t467, .slice Ao29 t468.length co29], .int .i64 a1, .slice Ao30 t471.length co30] rfl (by (try simp only [List.map_toArray, List.map_cons, List.map_nil]); first | done | rfl | (simp only [List.length_drop, List.length_take]; rfl)) ?_; (with_reducible refine (league_RulesOut.calls t467 _ _ t468 a1 _ _ t471 t474 _ ?side1 ?side2 ?side3 ?side4 A19.out).mono ?_); (case side1 => repeat (first | exact (Kd.R_reads' HO470.out).2.2 | (with_reducible refine Kd.C_alloc ?_ _) | (with_reducible refine Kd.C_drewN ?_ _) | (with_reducible refine Kd.C_drew ?_))); (case side2 => exact (Kd.R_reads' HO470.out).2.1); (case side3 => repeat (first | exact (Kd.R_reads' HO473.out).2.2 | (with_reducible refine Kd.C_alloc ?_ _) | (with_reducible refine Kd.C_drewN ?_ _) | (with_reducible refine Kd.C_drew ?_))); (case side4 => exact (Kd.R_reads' HO473.out).2.1); rintro e w31 ⟨rfl, hb⟩; refine ⟨_, rfl, ?_⟩; have n0_ := Aside0.mk (Kd.R_below (by (with_reducible repeat (first | apply Kd.R_alloc | apply Kd.R_drewN | apply Kd.R_drew)); exact HO462.out) hb); have n1_ := Aside0.mk (Kd.R_below (by (with_reducible repeat (first | apply Kd.R_alloc | apply Kd.R_drewN | apply Kd.R_drew)); exact HO465.out) hb); have n2_ := Aside0.mk (Kd.R_below (by (with_reducible repeat (first | apply Kd.R_alloc | apply Kd.R_drewN | apply Kd.R_drew)); exact HO470.out) hb); have n3_ := Aside0.mk (Kd.R_below (by (with_reducible repeat (first | apply Kd.R_alloc | apply Kd.R_drewN | apply Kd.R_drew)); exact HO473.out) hb); have n4_ := Aside0.mk (blk_below (g := gb456) (o := .cells #[.int .i64 a0_0, .slice A0_1 l0_1.length c0_1] 24 (0, 0)) (by (with_reducible repeat (first | refine blk_drewN ?_ _ | refine blk_drew ?_ | refine blk_alloc ?_ _)); exact BK456.out) hb); have n5_ := Aside0.mk (below_step (by repeat (first | (with_reducible first | exact HB.out | apply below_alloc | apply pw_below_drewN | apply below_drew1 | refine below_set ?_ GE456.out) | exact HB.out)) hb); clear HO462; clear HO465; clear HO470; clear HO473; clear BK456; clear HB; have HO462 := n0_; have HO465 := n1_; have HO470 := n2_; have HO473 := n3_; have BK456 := n4_; have HB := n5_; clear n0_ n1_ n2_ n3_ n4_ n5_; (try clear hb); (try clear hb2); (try clear hk); (try clear hi); have hcz32_0 : w31.cell? ⟨gb456, 0, none⟩ = some (.int .i64 a0_0) := (blk_cell BK456.out 0).trans rfl; have hcz32_1 : w31.cell? ⟨gb456, 1, none⟩ = some (.slice A0_1 l0_1.length c0_1) := (blk_cell BK456.out 1).trans rfl; have hfz32_0 := blk_frozen BK456.out 0; have hfz32_1 := blk_frozen BK456.out 1) | ((with_reducible refine gate_callee (f := 40) rfl ?_); refine goesL_ (some 36) rfl rfl Try.func40 (by kernel_rfl) rfl #[.agg #[.int .i64 a0_0, .slice A0_1 l0_1.length c0_1], .int .i64 a1] rfl (by (try simp only [List.map_toArray, List.map_cons, List.map_nil]); first | done | rfl | (simp only [List.length_drop, List.length_take]; rfl)) ?_; (with_reducible refine (kingpinlaw08_teamed.calls a0_0 _ _ l0_1 a1 t475 _ ?side1 ?side2 A20.out).mono ?_); (case side1 => repeat (first | exact (Kd.C_below HR0_1.out HB.out) | (with_reducible refine Kd.C_alloc ?_ _) | (with_reducible refine Kd.C_drewN ?_ _) | (with_reducible refine Kd.C_drew ?_))); (case side2 => exact HC0_1.out); rintro e w33 ⟨rfl, hb⟩; refine ⟨_, rfl, ?_⟩; have n0_ := Aside0.mk (Kd.R_below (by (with_reducible repeat (first | apply Kd.R_alloc | apply Kd.R_drewN | apply Kd.R_drew)); exact HO462.out) hb); have n1_ := Aside0.mk (Kd.R_below (by (with_reducible repeat (first | apply Kd.R_alloc | apply Kd.R_drewN | apply Kd.R_drew)); exact HO465.out) hb); have n2_ := Aside0.mk (Kd.R_below (by (with_reducible repeat (first | apply Kd.R_alloc | apply Kd.R_drewN | apply Kd.R_drew)); exact HO470.out) hb); have n3_ := Aside0.mk (Kd.R_below (by (with_reducible repeat (first | apply Kd.R_alloc | apply Kd.R_drewN | apply Kd.R_drew)); exact HO473.out) hb); have n4_ := Aside0.mk (blk_below (g := gb456) (o := .cells #[.int .i64 a0_0, .slice A0_1 l0_1.length c0_1] 24 (0, 0)) (by (with_reducible repeat (first | refine blk_drewN ?_ _ | refine blk_drew ?_ | refine blk_alloc ?_ _)); exact BK456.out) hb); have n5_ := Aside0.mk (below_step (by repeat (first | (with_reducible first | exact HB.out | apply below_alloc | apply pw_below_drewN | apply below_drew1 | refine below_set ?_ GE456.out) | exact HB.out)) hb); clear HO462; clear HO465; clear HO470; clear HO473; clear BK456; clear HB; have HO462 := n0_; have HO465 := n1_; have HO470 := n2_; have HO473 := n3_; have BK456 := n4_; have HB := n5_; clear n0_ n1_ n2_ n3_ n4_ n5_; (try clear hb); (try clear hb2); (try clear hk); (try clear hi)))
    (try simp only [Act.put, List.setIfInBounds_toArray, List.set_cons_zero, List.set_cons_succ])
    go_cut [46] (fun v46 wc => ∃ (kq : Nat) (x46_20 : Bool), v46 = .bool x46_20 ∧ Aside0 (kingpinlaw08_LeagueReasons.j1 kq a1 t463 t466 t475 x46_20 a0_0 l0_1 = some r) ∧ Aside0 (kq ≤ kj3) ∧ Aside0 (Kd.R (Kd.int .i64) 3 wc w.heap.size (fun _ => True) v464 t463) ∧ Aside0 (wc.heap[gb456]? = some (.cells #[.int .i64 a0_0, (.slice A0_1 l0_1.length c0_1)] 24 (0, 0))) ∧ Aside0 (Below w.heap.size w wc))
    case first =>
     have H := HC21.out
     clear HC21
     by_cases c34 : t475 = 0
     ·
      rw [if_pos c34] at H
      have c34b0 : (t475 == 0) = true := beq_iff_eq.mpr c34
      have c34b1 : (t475 != 0) = false := bne_eq_false_iff_eq.mpr c34
      clear c34
      (first | rw [c34b0] | (simp only [i64_w, i32_w]; rw [c34b0]) | skip)
      replace H := Option.bind_eq_some_iff.mp H
      obtain ⟨t476, A350, H⟩ := H
      replace H : (kingpinlaw08_LeagueReasons.j1 kj3 a1 t463 t466 t475 (t474 != t476) a0_0 l0_1) = some r := H
      have A35 := Aside0.mk A350
      clear A350
      have H' := Aside0.mk H
      clear H
      have hcz36_0 : w33.cell? ⟨gb456, 0, none⟩ = some (.int .i64 a0_0) := (blk_cell BK456.out 0).trans rfl
      have hcz36_1 : w33.cell? ⟨gb456, 1, none⟩ = some (.slice A0_1 l0_1.length c0_1) := (blk_cell BK456.out 1).trans rfl
      have hfz36_0 := blk_frozen BK456.out 0
      have hfz36_1 := blk_frozen BK456.out 1
      go_wp2_with (first | (go_at_call 41; (with_reducible refine (kingpinref08_RulesOut.calls a0_0 _ _ l0_1 a1 _ _ l2 t476 _ ?side1 ?side2 ?side3 ?side4 A35.out).mono ?_); (case side1 => repeat (first | exact (Kd.C_below HR0_1.out HB.out) | (with_reducible refine Kd.C_alloc ?_ _) | (with_reducible refine Kd.C_drewN ?_ _) | (with_reducible refine Kd.C_drew ?_))); (case side2 => exact HC0_1.out); (case side3 => repeat (first | exact (Kd.C_below HR2.out HB.out) | (with_reducible refine Kd.C_alloc ?_ _) | (with_reducible refine Kd.C_drewN ?_ _) | (with_reducible refine Kd.C_drew ?_))); (case side4 => exact HC2.out); rintro e w37 ⟨rfl, hb⟩; have n0_ := Aside0.mk (Kd.R_below (by (with_reducible repeat (first | apply Kd.R_alloc | apply Kd.R_drewN | apply Kd.R_drew)); exact HO462.out) hb); have n1_ := Aside0.mk (Kd.R_below (by (with_reducible repeat (first | apply Kd.R_alloc | apply Kd.R_drewN | apply Kd.R_drew)); exact HO465.out) hb); have n2_ := Aside0.mk (Kd.R_below (by (with_reducible repeat (first | apply Kd.R_alloc | apply Kd.R_drewN | apply Kd.R_drew)); exact HO470.out) hb); have n3_ := Aside0.mk (Kd.R_below (by (with_reducible repeat (first | apply Kd.R_alloc | apply Kd.R_drewN | apply Kd.R_drew)); exact HO473.out) hb); have n4_ := Aside0.mk (blk_below (g := gb456) (o := .cells #[.int .i64 a0_0, .slice A0_1 l0_1.length c0_1] 24 (0, 0)) (by (with_reducible repeat (first | refine blk_drewN ?_ _ | refine blk_drew ?_ | refine blk_alloc ?_ _)); exact BK456.out) hb); have n5_ := Aside0.mk (below_step (by repeat (first | (with_reducible first | exact HB.out | apply below_alloc | apply pw_below_drewN | apply below_drew1 | refine below_set ?_ GE456.out) | exact HB.out)) hb); clear HO462; clear HO465; clear HO470; clear HO473; clear BK456; clear HB; have HO462 := n0_; have HO465 := n1_; have HO470 := n2_; have HO473 := n3_; have BK456 := n4_; have HB := n5_; clear n0_ n1_ n2_ n3_ n4_ n5_; (try clear hb); (try clear hb2); (try clear hk); (try clear hi)))
      go_meet
      case rel => exact ⟨_, ((t474 != t476)), (by first | rfl | (simp; done) | (simp [*]; done)), H', ⟨by have := HJ3.out; first | omega | exact Nat.le_refl _⟩, ⟨by (with_reducible repeat (first | apply Kd.R_alloc | apply Kd.R_drewN | apply Kd.R_drew)); exact Kd.R_mono HO465.out (fun _ hk => trivial)⟩, ⟨by (with_reducible repeat (first | refine blk_drewN ?_ _ | refine blk_drew ?_ | refine blk_alloc ?_ _)); exact BK456.out⟩, ⟨by repeat (first | (with_reducible first | exact HB.out | apply below_alloc | apply pw_below_drewN | apply below_drew1 | refine below_set ?_ GE456.out) | exact HB.out)⟩⟩
     ·
      rw [if_neg c34] at H
      have c34b0 : (t475 == 0) = false := beq_eq_false_iff_ne.mpr c34
      have c34b1 : (t475 != 0) = true := bne_iff_ne.mpr c34
      (first | rw [c34b0] | (simp only [i64_w, i32_w]; rw [c34b0]) | skip)
      have H' := Aside0.mk H
      clear H
      go_wp2
      go_meet
      case rel => exact ⟨_, ((t474 != false)), (by first | rfl | (simp; done) | (simp [*]; done)), H', ⟨by have := HJ3.out; first | omega | exact Nat.le_refl _⟩, ⟨by (with_reducible repeat (first | apply Kd.R_alloc | apply Kd.R_drewN | apply Kd.R_drew)); exact Kd.R_mono HO465.out (fun _ hk => trivial)⟩, ⟨by (with_reducible repeat (first | refine blk_drewN ?_ _ | refine blk_drew ?_ | refine blk_alloc ?_ _)); exact BK456.out⟩, ⟨by repeat (first | (with_reducible first | exact HB.out | apply below_alloc | apply pw_below_drewN | apply below_drew1 | refine below_set ?_ GE456.out) | exact HB.out)⟩⟩
    case rest =>
     clear HC21
     try clear c1
     try clear c2
     try clear p2
     try clear c3
     try clear c4
     try clear c7
     try clear c8
     try clear c12
     try clear c15
     try clear c16
     try clear c18
     try clear c34
     try clear c34b0
     try clear c34b1
     try clear c37
     try clear hcz10_0
     try clear hcz10_1
     try clear hcz22_0
     try clear hcz22_1
     try clear hcz26_0
     try clear hcz26_1
     try clear hcz32_0
     try clear hcz32_1
     try clear hcz36_0
     try clear hcz36_1
     try clear hcz8_0
     try clear hcz8_1
     try clear hfz10_0
     try clear hfz10_1
     try clear hfz22_0
     try clear hfz22_1
     try clear hfz26_0
     try clear hfz26_1
     try clear hfz32_0
     try clear hfz32_1
     try clear hfz36_0
     try clear hfz36_1
     try clear hfz8_0
     try clear hfz8_1
     try clear p2
     obtain ⟨kq, x46_20, rfl, HA, HJ20, HO_7, BK456, HB⟩ := hcut
     cases kq with
     | zero => exact absurd HA.out (by simp [kingpinlaw08_LeagueReasons.j1])
     | succ kj20 =>
      have H := HA.out
      clear HA
      simp only [kingpinlaw08_LeagueReasons.j1] at H
      by_cases c38 : x46_20 = true
      ·
       subst c38
       have H1 : (some false) = some r := by rw [if_pos rfl] at H; exact H
       clear H
       have H := H1
       clear H1
       obtain rfl := Option.some.inj H
       go_wp2
       go_ret
       exact ⟨by first | rfl | (simp [errW_none, errW_some] <;> rfl) | (simp [*, errW_none, errW_some] <;> rfl), by repeat (first | (with_reducible first | exact HB.out | apply below_alloc | apply pw_below_drewN | apply below_drew1 | refine below_set ?_ GE456.out) | exact HB.out)⟩
      ·
       replace c38 := Bool.eq_false_iff.mpr c38
       subst c38
       have H1 : (if t475 = 0 then ((kingpinref08_Reason.f kj20 a0_0 l0_1 a1).bind fun t477 => (if (t477.length : Int) = 0 then (if t466 = 7 then ((kingpinlaw08_ints.f kj20 t463 t477).bind fun t480 => (if t480 = true then ((kingpinlaw08_awake.f).bind fun t481 => (some t481)) else (some false))) else (some false)) else (if t466 = t475 then ((kingpinlaw08_ints.f kj20 t463 t477).bind fun t482 => (if t482 = true then ((kingpinlaw08_awake.f).bind fun t483 => (some t483)) else (some false))) else (some false)))) else (if t466 = t475 then ((kingpinlaw08_ints.f kj20 t463 ([] : List Int)).bind fun t484 => (if t484 = true then ((kingpinlaw08_awake.f).bind fun t485 => (some t485)) else (some false))) else (some false))) = some r := by rw [if_neg (show ¬ (false = true) by decide)] at H; exact H
       clear H
       have H := H1
       clear H1
       by_cases c39 : t475 = 0
       ·
        rw [if_pos c39] at H
        have c39b0 : (t475 == 0) = true := beq_iff_eq.mpr c39
        have c39b1 : (t475 != 0) = false := bne_eq_false_iff_eq.mpr c39
        clear c39
        replace H := Option.bind_eq_some_iff.mp H
        obtain ⟨t477, A400, H⟩ := H
        replace H : (if (t477.length : Int) = 0 then (if t466 = 7 then ((kingpinlaw08_ints.f kj20 t463 t477).bind fun t480 => (if t480 = true then ((kingpinlaw08_awake.f).bind fun t481 => (some t481)) else (some false))) else (some false)) else (if t466 = t475 then ((kingpinlaw08_ints.f kj20 t463 t477).bind fun t482 => (if t482 = true then ((kingpinlaw08_awake.f).bind fun t483 => (some t483)) else (some false))) else (some false))) = some r := H
        have A40 := Aside0.mk A400
        clear A400
        by_cases c41 : (t477.length : Int) = 0
        ·
         rw [if_pos c41] at H
         have c41b0 : ((t477.length : Int) == 0) = true := beq_iff_eq.mpr c41
         have c41b1 : ((t477.length : Int) != 0) = false := bne_eq_false_iff_eq.mpr c41
         clear c41
         by_cases c42 : t466 = 7
         ·
          rw [if_pos c42] at H
          have c42b0 : (t466 == 7) = true := beq_iff_eq.mpr c42
          have c42b1 : (t466 != 7) = false := bne_eq_false_iff_eq.mpr c42
          clear c42
          replace H := Option.bind_eq_some_iff.mp H
          obtain ⟨t480, A430, H⟩ := H
          replace H : (if t480 = true then ((kingpinlaw08_awake.f).bind fun t481 => (some t481)) else (some false)) = some r := H
          have A43 := Aside0.mk A430
          clear A430
          by_cases c44 : t480 = true
          ·
           subst c44
           have H1 : ((kingpinlaw08_awake.f).bind fun t481 => (some t481)) = some r := by rw [if_pos rfl] at H; exact H
           clear H
           have H := H1
           clear H1
           replace H := Option.bind_eq_some_iff.mp H
           obtain ⟨t481, A450, H⟩ := H
           replace H : (some t481) = some r := H
           have A45 := Aside0.mk A450
           clear A450
           obtain rfl := Option.some.inj H
           have hcz46_0 : wc.cell? ⟨gb456, 0, none⟩ = some (.int .i64 a0_0) := (blk_cell BK456.out 0).trans rfl
           have hcz46_1 : wc.cell? ⟨gb456, 1, none⟩ = some (.slice A0_1 l0_1.length c0_1) := (blk_cell BK456.out 1).trans rfl
           have hfz46_0 := blk_frozen BK456.out 0
           have hfz46_1 := blk_frozen BK456.out 1
           go_wp2_with (first | ((with_reducible refine gate_callee (f := 42) rfl ?_); refine goesL_ (some 51) rfl rfl Try.func42 (by kernel_rfl) rfl #[.agg #[.int .i64 a0_0, .slice A0_1 l0_1.length c0_1], .int .i64 a1] rfl (by (try simp only [List.map_toArray, List.map_cons, List.map_nil]); first | done | rfl | (simp only [List.length_drop, List.length_take]; rfl)) ?_; (with_reducible refine (kingpinref08_Reason.calls kj20 a0_0 _ _ l0_1 a1 t477 _ ?side1 ?side2 A40.out).mono ?_); (case side1 => repeat (first | exact (Kd.C_below HR0_1.out HB.out) | (with_reducible refine Kd.C_alloc ?_ _) | (with_reducible refine Kd.C_drewN ?_ _) | (with_reducible refine Kd.C_drew ?_))); (case side2 => exact HC0_1.out); rintro e w47 ⟨v478, rfl, ho0, hb⟩; refine ⟨_, rfl, ?_⟩; have n0_ := Aside0.mk (Kd.R_elder' (by (with_reducible repeat (first | apply Kd.R_alloc | apply Kd.R_drewN | apply Kd.R_drew)); exact HO_7.out) (Kd.R_base ho0) hb); have n1_ := Aside0.mk (Kd.R_lower (Kd.R_new' ho0 (Kd.R_lt (by (with_reducible repeat (first | apply Kd.R_alloc | apply Kd.R_drewN | apply Kd.R_drew)); exact HO_7.out))) (below_size (by repeat (first | (with_reducible first | exact HB.out | apply below_alloc | apply pw_below_drewN | apply below_drew1 | refine below_set ?_ GE456.out) | exact HB.out)))); have n2_ := Aside0.mk (blk_below (g := gb456) (o := .cells #[.int .i64 a0_0, .slice A0_1 l0_1.length c0_1] 24 (0, 0)) (by (with_reducible repeat (first | refine blk_drewN ?_ _ | refine blk_drew ?_ | refine blk_alloc ?_ _)); exact BK456.out) hb); have n3_ := Aside0.mk (below_step (by repeat (first | (with_reducible first | exact HB.out | apply below_alloc | apply pw_below_drewN | apply below_drew1 | refine below_set ?_ GE456.out) | exact HB.out)) hb); clear HO_7; clear BK456; clear HB; have HO_7 := n0_; have HO479 := n1_; have BK456 := n2_; have HB := n3_; clear n0_ n1_ n2_ n3_; (try clear hb); (try clear hb2); (try clear hk); (try clear hi); (try clear ho0); obtain ⟨Ao48, co48, eo48⟩ := Kd.R_slice HO479.out; subst eo48; obtain ⟨Ao49, co49, eo49⟩ := Kd.R_slice HO_7.out; subst eo49) | (go_at_call 23; (with_reducible refine (kingpinlaw08_ints.calls kj20 _ _ t463 _ _ t477 true _ ?side1 ?side2 ?side3 ?side4 A43.out).mono ?_); (case side1 => repeat (first | exact (Kd.R_reads' HO_7.out).2.2 | (with_reducible refine Kd.C_alloc ?_ _) | (with_reducible refine Kd.C_drewN ?_ _) | (with_reducible refine Kd.C_drew ?_))); (case side2 => exact (Kd.R_reads' HO_7.out).2.1); (case side3 => repeat (first | exact (Kd.R_reads' HO479.out).2.2 | (with_reducible refine Kd.C_alloc ?_ _) | (with_reducible refine Kd.C_drewN ?_ _) | (with_reducible refine Kd.C_drew ?_))); (case side4 => exact (Kd.R_reads' HO479.out).2.1); rintro e w' ⟨rfl, ⟨nd, rfl⟩⟩) | (go_at_call 16; (with_reducible refine (kingpinlaw08_awake.calls  t481 _ A45.out).mono ?_); rintro e w50 ⟨rfl, hb⟩; have n0_ := Aside0.mk (Kd.R_below (by (with_reducible repeat (first | apply Kd.R_alloc | apply Kd.R_drewN | apply Kd.R_drew)); exact HO_7.out) hb); have n1_ := Aside0.mk (Kd.R_below (by (with_reducible repeat (first | apply Kd.R_alloc | apply Kd.R_drewN | apply Kd.R_drew)); exact HO479.out) hb); have n2_ := Aside0.mk (blk_below (g := gb456) (o := .cells #[.int .i64 a0_0, .slice A0_1 l0_1.length c0_1] 24 (0, 0)) (by (with_reducible repeat (first | refine blk_drewN ?_ _ | refine blk_drew ?_ | refine blk_alloc ?_ _)); exact BK456.out) hb); have n3_ := Aside0.mk (below_step (by repeat (first | (with_reducible first | exact HB.out | apply below_alloc | apply pw_below_drewN | apply below_drew1 | refine below_set ?_ GE456.out) | exact HB.out)) hb); clear HO_7; clear HO479; clear BK456; clear HB; have HO_7 := n0_; have HO479 := n1_; have BK456 := n2_; have HB := n3_; clear n0_ n1_ n2_ n3_; (try clear hb); (try clear hb2); (try clear hk); (try clear hi)))
           go_ret
           exact ⟨by first | rfl | (simp [errW_none, errW_some] <;> rfl) | (simp [*, errW_none, errW_some] <;> rfl), by repeat (first | (with_reducible first | exact HB.out | apply below_alloc | apply pw_below_drewN | apply below_drew1 | refine below_set ?_ GE456.out) | exact HB.out)⟩
          ·
           replace c44 := Bool.eq_false_iff.mpr c44
           subst c44
           have H1 : (some false) = some r := by rw [if_neg (show ¬ (false = true) by decide)] at H; exact H
           clear H
           have H := H1
           clear H1
           obtain rfl := Option.some.inj H
           have hcz51_0 : wc.cell? ⟨gb456, 0, none⟩ = some (.int .i64 a0_0) := (blk_cell BK456.out 0).trans rfl
           have hcz51_1 : wc.cell? ⟨gb456, 1, none⟩ = some (.slice A0_1 l0_1.length c0_1) := (blk_cell BK456.out 1).trans rfl
           have hfz51_0 := blk_frozen BK456.out 0
           have hfz51_1 := blk_frozen BK456.out 1
           go_wp2_with (first | ((with_reducible refine gate_callee (f := 42) rfl ?_); refine goesL_ (some 51) rfl rfl Try.func42 (by kernel_rfl) rfl #[.agg #[.int .i64 a0_0, .slice A0_1 l0_1.length c0_1], .int .i64 a1] rfl (by (try simp only [List.map_toArray, List.map_cons, List.map_nil]); first | done | rfl | (simp only [List.length_drop, List.length_take]; rfl)) ?_; (with_reducible refine (kingpinref08_Reason.calls kj20 a0_0 _ _ l0_1 a1 t477 _ ?side1 ?side2 A40.out).mono ?_); (case side1 => repeat (first | exact (Kd.C_below HR0_1.out HB.out) | (with_reducible refine Kd.C_alloc ?_ _) | (with_reducible refine Kd.C_drewN ?_ _) | (with_reducible refine Kd.C_drew ?_))); (case side2 => exact HC0_1.out); rintro e w52 ⟨v478, rfl, ho0, hb⟩; refine ⟨_, rfl, ?_⟩; have n0_ := Aside0.mk (Kd.R_elder' (by (with_reducible repeat (first | apply Kd.R_alloc | apply Kd.R_drewN | apply Kd.R_drew)); exact HO_7.out) (Kd.R_base ho0) hb); have n1_ := Aside0.mk (Kd.R_lower (Kd.R_new' ho0 (Kd.R_lt (by (with_reducible repeat (first | apply Kd.R_alloc | apply Kd.R_drewN | apply Kd.R_drew)); exact HO_7.out))) (below_size (by repeat (first | (with_reducible first | exact HB.out | apply below_alloc | apply pw_below_drewN | apply below_drew1 | refine below_set ?_ GE456.out) | exact HB.out)))); have n2_ := Aside0.mk (blk_below (g := gb456) (o := .cells #[.int .i64 a0_0, .slice A0_1 l0_1.length c0_1] 24 (0, 0)) (by (with_reducible repeat (first | refine blk_drewN ?_ _ | refine blk_drew ?_ | refine blk_alloc ?_ _)); exact BK456.out) hb); have n3_ := Aside0.mk (below_step (by repeat (first | (with_reducible first | exact HB.out | apply below_alloc | apply pw_below_drewN | apply below_drew1 | refine below_set ?_ GE456.out) | exact HB.out)) hb); clear HO_7; clear BK456; clear HB; have HO_7 := n0_; have HO479 := n1_; have BK456 := n2_; have HB := n3_; clear n0_ n1_ n2_ n3_; (try clear hb); (try clear hb2); (try clear hk); (try clear hi); (try clear ho0); obtain ⟨Ao53, co53, eo53⟩ := Kd.R_slice HO479.out; subst eo53; obtain ⟨Ao54, co54, eo54⟩ := Kd.R_slice HO_7.out; subst eo54) | (go_at_call 23; (with_reducible refine (kingpinlaw08_ints.calls kj20 _ _ t463 _ _ t477 false _ ?side1 ?side2 ?side3 ?side4 A43.out).mono ?_); (case side1 => repeat (first | exact (Kd.R_reads' HO_7.out).2.2 | (with_reducible refine Kd.C_alloc ?_ _) | (with_reducible refine Kd.C_drewN ?_ _) | (with_reducible refine Kd.C_drew ?_))); (case side2 => exact (Kd.R_reads' HO_7.out).2.1); (case side3 => repeat (first | exact (Kd.R_reads' HO479.out).2.2 | (with_reducible refine Kd.C_alloc ?_ _) | (with_reducible refine Kd.C_drewN ?_ _) | (with_reducible refine Kd.C_drew ?_))); (case side4 => exact (Kd.R_reads' HO479.out).2.1); rintro e w' ⟨rfl, ⟨nd, rfl⟩⟩))
           go_ret
           exact ⟨by first | rfl | (simp [errW_none, errW_some] <;> rfl) | (simp [*, errW_none, errW_some] <;> rfl), by repeat (first | (with_reducible first | exact HB.out | apply below_alloc | apply pw_below_drewN | apply below_drew1 | refine below_set ?_ GE456.out) | exact HB.out)⟩
         ·
          rw [if_neg c42] at H
          have c42b0 : (t466 == 7) = false := beq_eq_false_iff_ne.mpr c42
          have c42b1 : (t466 != 7) = true := bne_iff_ne.mpr c42
          obtain rfl := Option.some.inj H
          have hcz55_0 : wc.cell? ⟨gb456, 0, none⟩ = some (.int .i64 a0_0) := (blk_cell BK456.out 0).trans rfl
          have hcz55_1 : wc.cell? ⟨gb456, 1, none⟩ = some (.slice A0_1 l0_1.length c0_1) := (blk_cell BK456.out 1).trans rfl
          have hfz55_0 := blk_frozen BK456.out 0
          have hfz55_1 := blk_frozen BK456.out 1
          go_wp2_with (first | ((with_reducible refine gate_callee (f := 42) rfl ?_); refine goesL_ (some 51) rfl rfl Try.func42 (by kernel_rfl) rfl #[.agg #[.int .i64 a0_0, .slice A0_1 l0_1.length c0_1], .int .i64 a1] rfl (by (try simp only [List.map_toArray, List.map_cons, List.map_nil]); first | done | rfl | (simp only [List.length_drop, List.length_take]; rfl)) ?_; (with_reducible refine (kingpinref08_Reason.calls kj20 a0_0 _ _ l0_1 a1 t477 _ ?side1 ?side2 A40.out).mono ?_); (case side1 => repeat (first | exact (Kd.C_below HR0_1.out HB.out) | (with_reducible refine Kd.C_alloc ?_ _) | (with_reducible refine Kd.C_drewN ?_ _) | (with_reducible refine Kd.C_drew ?_))); (case side2 => exact HC0_1.out); rintro e w56 ⟨v478, rfl, ho0, hb⟩; refine ⟨_, rfl, ?_⟩; have n0_ := Aside0.mk (Kd.R_elder' (by (with_reducible repeat (first | apply Kd.R_alloc | apply Kd.R_drewN | apply Kd.R_drew)); exact HO_7.out) (Kd.R_base ho0) hb); have n1_ := Aside0.mk (Kd.R_lower (Kd.R_new' ho0 (Kd.R_lt (by (with_reducible repeat (first | apply Kd.R_alloc | apply Kd.R_drewN | apply Kd.R_drew)); exact HO_7.out))) (below_size (by repeat (first | (with_reducible first | exact HB.out | apply below_alloc | apply pw_below_drewN | apply below_drew1 | refine below_set ?_ GE456.out) | exact HB.out)))); have n2_ := Aside0.mk (blk_below (g := gb456) (o := .cells #[.int .i64 a0_0, .slice A0_1 l0_1.length c0_1] 24 (0, 0)) (by (with_reducible repeat (first | refine blk_drewN ?_ _ | refine blk_drew ?_ | refine blk_alloc ?_ _)); exact BK456.out) hb); have n3_ := Aside0.mk (below_step (by repeat (first | (with_reducible first | exact HB.out | apply below_alloc | apply pw_below_drewN | apply below_drew1 | refine below_set ?_ GE456.out) | exact HB.out)) hb); clear HO_7; clear BK456; clear HB; have HO_7 := n0_; have HO479 := n1_; have BK456 := n2_; have HB := n3_; clear n0_ n1_ n2_ n3_; (try clear hb); (try clear hb2); (try clear hk); (try clear hi); (try clear ho0); obtain ⟨Ao57, co57, eo57⟩ := Kd.R_slice HO479.out; subst eo57))
          go_ret
          exact ⟨by first | rfl | (simp [errW_none, errW_some] <;> rfl) | (simp [*, errW_none, errW_some] <;> rfl), by repeat (first | (with_reducible first | exact HB.out | apply below_alloc | apply pw_below_drewN | apply below_drew1 | refine below_set ?_ GE456.out) | exact HB.out)⟩
        ·
         rw [if_neg c41] at H
         have c41b0 : ((t477.length : Int) == 0) = false := beq_eq_false_iff_ne.mpr c41
         have c41b1 : ((t477.length : Int) != 0) = true := bne_iff_ne.mpr c41
         have c41b2 : ¬ (t477 = []) := fun h_ => c41 (by rw [h_]; rfl)
         by_cases c58 : t466 = t475
         ·
          rw [if_pos c58] at H
          have c58b0 : (t466 == t475) = true := beq_iff_eq.mpr c58
          have c58b1 : (t466 != t475) = false := bne_eq_false_iff_eq.mpr c58
          clear c58
          replace H := Option.bind_eq_some_iff.mp H
          obtain ⟨t482, A590, H⟩ := H
          replace H : (if t482 = true then ((kingpinlaw08_awake.f).bind fun t483 => (some t483)) else (some false)) = some r := H
          have A59 := Aside0.mk A590
          clear A590
          by_cases c60 : t482 = true
          ·
           subst c60
           have H1 : ((kingpinlaw08_awake.f).bind fun t483 => (some t483)) = some r := by rw [if_pos rfl] at H; exact H
           clear H
           have H := H1
           clear H1
           replace H := Option.bind_eq_some_iff.mp H
           obtain ⟨t483, A610, H⟩ := H
           replace H : (some t483) = some r := H
           have A61 := Aside0.mk A610
           clear A610
           obtain rfl := Option.some.inj H
           have hcz62_0 : wc.cell? ⟨gb456, 0, none⟩ = some (.int .i64 a0_0) := (blk_cell BK456.out 0).trans rfl
           have hcz62_1 : wc.cell? ⟨gb456, 1, none⟩ = some (.slice A0_1 l0_1.length c0_1) := (blk_cell BK456.out 1).trans rfl
           have hfz62_0 := blk_frozen BK456.out 0
           have hfz62_1 := blk_frozen BK456.out 1
           go_wp2_with (first | ((with_reducible refine gate_callee (f := 42) rfl ?_); refine goesL_ (some 51) rfl rfl Try.func42 (by kernel_rfl) rfl #[.agg #[.int .i64 a0_0, .slice A0_1 l0_1.length c0_1], .int .i64 a1] rfl (by (try simp only [List.map_toArray, List.map_cons, List.map_nil]); first | done | rfl | (simp only [List.length_drop, List.length_take]; rfl)) ?_; (with_reducible refine (kingpinref08_Reason.calls kj20 a0_0 _ _ l0_1 a1 t477 _ ?side1 ?side2 A40.out).mono ?_); (case side1 => repeat (first | exact (Kd.C_below HR0_1.out HB.out) | (with_reducible refine Kd.C_alloc ?_ _) | (with_reducible refine Kd.C_drewN ?_ _) | (with_reducible refine Kd.C_drew ?_))); (case side2 => exact HC0_1.out); rintro e w63 ⟨v478, rfl, ho0, hb⟩; refine ⟨_, rfl, ?_⟩; have n0_ := Aside0.mk (Kd.R_elder' (by (with_reducible repeat (first | apply Kd.R_alloc | apply Kd.R_drewN | apply Kd.R_drew)); exact HO_7.out) (Kd.R_base ho0) hb); have n1_ := Aside0.mk (Kd.R_lower (Kd.R_new' ho0 (Kd.R_lt (by (with_reducible repeat (first | apply Kd.R_alloc | apply Kd.R_drewN | apply Kd.R_drew)); exact HO_7.out))) (below_size (by repeat (first | (with_reducible first | exact HB.out | apply below_alloc | apply pw_below_drewN | apply below_drew1 | refine below_set ?_ GE456.out) | exact HB.out)))); have n2_ := Aside0.mk (blk_below (g := gb456) (o := .cells #[.int .i64 a0_0, .slice A0_1 l0_1.length c0_1] 24 (0, 0)) (by (with_reducible repeat (first | refine blk_drewN ?_ _ | refine blk_drew ?_ | refine blk_alloc ?_ _)); exact BK456.out) hb); have n3_ := Aside0.mk (below_step (by repeat (first | (with_reducible first | exact HB.out | apply below_alloc | apply pw_below_drewN | apply below_drew1 | refine below_set ?_ GE456.out) | exact HB.out)) hb); clear HO_7; clear BK456; clear HB; have HO_7 := n0_; have HO479 := n1_; have BK456 := n2_; have HB := n3_; clear n0_ n1_ n2_ n3_; (try clear hb); (try clear hb2); (try clear hk); (try clear hi); (try clear ho0); obtain ⟨Ao64, co64, eo64⟩ := Kd.R_slice HO479.out; subst eo64; obtain ⟨Ao65, co65, eo65⟩ := Kd.R_slice HO_7.out; subst eo65) | (go_at_call 23; (with_reducible refine (kingpinlaw08_ints.calls kj20 _ _ t463 _ _ t477 true _ ?side1 ?side2 ?side3 ?side4 A59.out).mono ?_); (case side1 => repeat (first | exact (Kd.R_reads' HO_7.out).2.2 | (with_reducible refine Kd.C_alloc ?_ _) | (with_reducible refine Kd.C_drewN ?_ _) | (with_reducible refine Kd.C_drew ?_))); (case side2 => exact (Kd.R_reads' HO_7.out).2.1); (case side3 => repeat (first | exact (Kd.R_reads' HO479.out).2.2 | (with_reducible refine Kd.C_alloc ?_ _) | (with_reducible refine Kd.C_drewN ?_ _) | (with_reducible refine Kd.C_drew ?_))); (case side4 => exact (Kd.R_reads' HO479.out).2.1); rintro e w' ⟨rfl, ⟨nd, rfl⟩⟩) | (go_at_call 16; (with_reducible refine (kingpinlaw08_awake.calls  t483 _ A61.out).mono ?_); rintro e w66 ⟨rfl, hb⟩; have n0_ := Aside0.mk (Kd.R_below (by (with_reducible repeat (first | apply Kd.R_alloc | apply Kd.R_drewN | apply Kd.R_drew)); exact HO_7.out) hb); have n1_ := Aside0.mk (Kd.R_below (by (with_reducible repeat (first | apply Kd.R_alloc | apply Kd.R_drewN | apply Kd.R_drew)); exact HO479.out) hb); have n2_ := Aside0.mk (blk_below (g := gb456) (o := .cells #[.int .i64 a0_0, .slice A0_1 l0_1.length c0_1] 24 (0, 0)) (by (with_reducible repeat (first | refine blk_drewN ?_ _ | refine blk_drew ?_ | refine blk_alloc ?_ _)); exact BK456.out) hb); have n3_ := Aside0.mk (below_step (by repeat (first | (with_reducible first | exact HB.out | apply below_alloc | apply pw_below_drewN | apply below_drew1 | refine below_set ?_ GE456.out) | exact HB.out)) hb); clear HO_7; clear HO479; clear BK456; clear HB; have HO_7 := n0_; have HO479 := n1_; have BK456 := n2_; have HB := n3_; clear n0_ n1_ n2_ n3_; (try clear hb); (try clear hb2); (try clear hk); (try clear hi)))
           go_ret
           exact ⟨by first | rfl | (simp [errW_none, errW_some] <;> rfl) | (simp [*, errW_none, errW_some] <;> rfl), by repeat (first | (with_reducible first | exact HB.out | apply below_alloc | apply pw_below_drewN | apply below_drew1 | refine below_set ?_ GE456.out) | exact HB.out)⟩
          ·
           replace c60 := Bool.eq_false_iff.mpr c60
           subst c60
           have H1 : (some false) = some r := by rw [if_neg (show ¬ (false = true) by decide)] at H; exact H
           clear H
           have H := H1
           clear H1
           obtain rfl := Option.some.inj H
           have hcz67_0 : wc.cell? ⟨gb456, 0, none⟩ = some (.int .i64 a0_0) := (blk_cell BK456.out 0).trans rfl
           have hcz67_1 : wc.cell? ⟨gb456, 1, none⟩ = some (.slice A0_1 l0_1.length c0_1) := (blk_cell BK456.out 1).trans rfl
           have hfz67_0 := blk_frozen BK456.out 0
           have hfz67_1 := blk_frozen BK456.out 1
           go_wp2_with (first | ((with_reducible refine gate_callee (f := 42) rfl ?_); refine goesL_ (some 51) rfl rfl Try.func42 (by kernel_rfl) rfl #[.agg #[.int .i64 a0_0, .slice A0_1 l0_1.length c0_1], .int .i64 a1] rfl (by (try simp only [List.map_toArray, List.map_cons, List.map_nil]); first | done | rfl | (simp only [List.length_drop, List.length_take]; rfl)) ?_; (with_reducible refine (kingpinref08_Reason.calls kj20 a0_0 _ _ l0_1 a1 t477 _ ?side1 ?side2 A40.out).mono ?_); (case side1 => repeat (first | exact (Kd.C_below HR0_1.out HB.out) | (with_reducible refine Kd.C_alloc ?_ _) | (with_reducible refine Kd.C_drewN ?_ _) | (with_reducible refine Kd.C_drew ?_))); (case side2 => exact HC0_1.out); rintro e w68 ⟨v478, rfl, ho0, hb⟩; refine ⟨_, rfl, ?_⟩; have n0_ := Aside0.mk (Kd.R_elder' (by (with_reducible repeat (first | apply Kd.R_alloc | apply Kd.R_drewN | apply Kd.R_drew)); exact HO_7.out) (Kd.R_base ho0) hb); have n1_ := Aside0.mk (Kd.R_lower (Kd.R_new' ho0 (Kd.R_lt (by (with_reducible repeat (first | apply Kd.R_alloc | apply Kd.R_drewN | apply Kd.R_drew)); exact HO_7.out))) (below_size (by repeat (first | (with_reducible first | exact HB.out | apply below_alloc | apply pw_below_drewN | apply below_drew1 | refine below_set ?_ GE456.out) | exact HB.out)))); have n2_ := Aside0.mk (blk_below (g := gb456) (o := .cells #[.int .i64 a0_0, .slice A0_1 l0_1.length c0_1] 24 (0, 0)) (by (with_reducible repeat (first | refine blk_drewN ?_ _ | refine blk_drew ?_ | refine blk_alloc ?_ _)); exact BK456.out) hb); have n3_ := Aside0.mk (below_step (by repeat (first | (with_reducible first | exact HB.out | apply below_alloc | apply pw_below_drewN | apply below_drew1 | refine below_set ?_ GE456.out) | exact HB.out)) hb); clear HO_7; clear BK456; clear HB; have HO_7 := n0_; have HO479 := n1_; have BK456 := n2_; have HB := n3_; clear n0_ n1_ n2_ n3_; (try clear hb); (try clear hb2); (try clear hk); (try clear hi); (try clear ho0); obtain ⟨Ao69, co69, eo69⟩ := Kd.R_slice HO479.out; subst eo69; obtain ⟨Ao70, co70, eo70⟩ := Kd.R_slice HO_7.out; subst eo70) | (go_at_call 23; (with_reducible refine (kingpinlaw08_ints.calls kj20 _ _ t463 _ _ t477 false _ ?side1 ?side2 ?side3 ?side4 A59.out).mono ?_); (case side1 => repeat (first | exact (Kd.R_reads' HO_7.out).2.2 | (with_reducible refine Kd.C_alloc ?_ _) | (with_reducible refine Kd.C_drewN ?_ _) | (with_reducible refine Kd.C_drew ?_))); (case side2 => exact (Kd.R_reads' HO_7.out).2.1); (case side3 => repeat (first | exact (Kd.R_reads' HO479.out).2.2 | (with_reducible refine Kd.C_alloc ?_ _) | (with_reducible refine Kd.C_drewN ?_ _) | (with_reducible refine Kd.C_drew ?_))); (case side4 => exact (Kd.R_reads' HO479.out).2.1); rintro e w' ⟨rfl, ⟨nd, rfl⟩⟩))
           go_ret
           exact ⟨by first | rfl | (simp [errW_none, errW_some] <;> rfl) | (simp [*, errW_none, errW_some] <;> rfl), by repeat (first | (with_reducible first | exact HB.out | apply below_alloc | apply pw_below_drewN | apply below_drew1 | refine below_set ?_ GE456.out) | exact HB.out)⟩
         ·
          rw [if_neg c58] at H
          have c58b0 : (t466 == t475) = false := beq_eq_false_iff_ne.mpr c58
          have c58b1 : (t466 != t475) = true := bne_iff_ne.mpr c58
          obtain rfl := Option.some.inj H
          have hcz71_0 : wc.cell? ⟨gb456, 0, none⟩ = some (.int .i64 a0_0) := (blk_cell BK456.out 0).trans rfl
          have hcz71_1 : wc.cell? ⟨gb456, 1, none⟩ = some (.slice A0_1 l0_1.length c0_1) := (blk_cell BK456.out 1).trans rfl
          have hfz71_0 := blk_frozen BK456.out 0
          have hfz71_1 := blk_frozen BK456.out 1
          go_wp2_with (first | ((with_reducible refine gate_callee (f := 42) rfl ?_); refine goesL_ (some 51) rfl rfl Try.func42 (by kernel_rfl) rfl #[.agg #[.int .i64 a0_0, .slice A0_1 l0_1.length c0_1], .int .i64 a1] rfl (by (try simp only [List.map_toArray, List.map_cons, List.map_nil]); first | done | rfl | (simp only [List.length_drop, List.length_take]; rfl)) ?_; (with_reducible refine (kingpinref08_Reason.calls kj20 a0_0 _ _ l0_1 a1 t477 _ ?side1 ?side2 A40.out).mono ?_); (case side1 => repeat (first | exact (Kd.C_below HR0_1.out HB.out) | (with_reducible refine Kd.C_alloc ?_ _) | (with_reducible refine Kd.C_drewN ?_ _) | (with_reducible refine Kd.C_drew ?_))); (case side2 => exact HC0_1.out); rintro e w72 ⟨v478, rfl, ho0, hb⟩; refine ⟨_, rfl, ?_⟩; have n0_ := Aside0.mk (Kd.R_elder' (by (with_reducible repeat (first | apply Kd.R_alloc | apply Kd.R_drewN | apply Kd.R_drew)); exact HO_7.out) (Kd.R_base ho0) hb); have n1_ := Aside0.mk (Kd.R_lower (Kd.R_new' ho0 (Kd.R_lt (by (with_reducible repeat (first | apply Kd.R_alloc | apply Kd.R_drewN | apply Kd.R_drew)); exact HO_7.out))) (below_size (by repeat (first | (with_reducible first | exact HB.out | apply below_alloc | apply pw_below_drewN | apply below_drew1 | refine below_set ?_ GE456.out) | exact HB.out)))); have n2_ := Aside0.mk (blk_below (g := gb456) (o := .cells #[.int .i64 a0_0, .slice A0_1 l0_1.length c0_1] 24 (0, 0)) (by (with_reducible repeat (first | refine blk_drewN ?_ _ | refine blk_drew ?_ | refine blk_alloc ?_ _)); exact BK456.out) hb); have n3_ := Aside0.mk (below_step (by repeat (first | (with_reducible first | exact HB.out | apply below_alloc | apply pw_below_drewN | apply below_drew1 | refine below_set ?_ GE456.out) | exact HB.out)) hb); clear HO_7; clear BK456; clear HB; have HO_7 := n0_; have HO479 := n1_; have BK456 := n2_; have HB := n3_; clear n0_ n1_ n2_ n3_; (try clear hb); (try clear hb2); (try clear hk); (try clear hi); (try clear ho0); obtain ⟨Ao73, co73, eo73⟩ := Kd.R_slice HO479.out; subst eo73))
          go_ret
          exact ⟨by first | rfl | (simp [errW_none, errW_some] <;> rfl) | (simp [*, errW_none, errW_some] <;> rfl), by repeat (first | (with_reducible first | exact HB.out | apply below_alloc | apply pw_below_drewN | apply below_drew1 | refine below_set ?_ GE456.out) | exact HB.out)⟩
       ·
        rw [if_neg c39] at H
        have c39b0 : (t475 == 0) = false := beq_eq_false_iff_ne.mpr c39
        have c39b1 : (t475 != 0) = true := bne_iff_ne.mpr c39
        by_cases c74 : t466 = t475
        ·
         rw [if_pos c74] at H
         have c74b0 : (t466 == t475) = true := beq_iff_eq.mpr c74
         have c74b1 : (t466 != t475) = false := bne_eq_false_iff_eq.mpr c74
         clear c74
         replace H := Option.bind_eq_some_iff.mp H
         obtain ⟨t484, A750, H⟩ := H
         replace H : (if t484 = true then ((kingpinlaw08_awake.f).bind fun t485 => (some t485)) else (some false)) = some r := H
         have A75 := Aside0.mk A750
         clear A750
         by_cases c76 : t484 = true
         ·
          subst c76
          have H1 : ((kingpinlaw08_awake.f).bind fun t485 => (some t485)) = some r := by rw [if_pos rfl] at H; exact H
          clear H
          have H := H1
          clear H1
          replace H := Option.bind_eq_some_iff.mp H
          obtain ⟨t485, A770, H⟩ := H
          replace H : (some t485) = some r := H
          have A77 := Aside0.mk A770
          clear A770
          obtain rfl := Option.some.inj H
          obtain ⟨Ao78, co78, eo78⟩ := Kd.R_slice HO_7.out
          subst eo78
          go_wp2_with (first | (go_at_call 23; (refine (kingpinlaw08_ints.calls kj20 _ _ t463 _ _ ([] : List Int) true _ ?side1 ?side2 ?side3 ?side4 A75.out).mono ?_); (case side1 => repeat (first | exact (Kd.R_reads' HO_7.out).2.2 | (with_reducible refine Kd.C_alloc ?_ _) | (with_reducible refine Kd.C_drewN ?_ _) | (with_reducible refine Kd.C_drew ?_))); (case side2 => exact (Kd.R_reads' HO_7.out).2.1); (case side3 => exact Kd.C_nil _ _); (case side4 => exact Nat.le_refl _); rintro e w' ⟨rfl, ⟨nd, rfl⟩⟩) | (go_at_call 16; (with_reducible refine (kingpinlaw08_awake.calls  t485 _ A77.out).mono ?_); rintro e w79 ⟨rfl, hb⟩; have n0_ := Aside0.mk (Kd.R_below (by (with_reducible repeat (first | apply Kd.R_alloc | apply Kd.R_drewN | apply Kd.R_drew)); exact HO_7.out) hb); have n1_ := Aside0.mk (blk_below (g := gb456) (o := .cells #[.int .i64 a0_0, .slice A0_1 l0_1.length c0_1] 24 (0, 0)) (by (with_reducible repeat (first | refine blk_drewN ?_ _ | refine blk_drew ?_ | refine blk_alloc ?_ _)); exact BK456.out) hb); have n2_ := Aside0.mk (below_step (by repeat (first | (with_reducible first | exact HB.out | apply below_alloc | apply pw_below_drewN | apply below_drew1 | refine below_set ?_ GE456.out) | exact HB.out)) hb); clear HO_7; clear BK456; clear HB; have HO_7 := n0_; have BK456 := n1_; have HB := n2_; clear n0_ n1_ n2_; (try clear hb); (try clear hb2); (try clear hk); (try clear hi)))
          go_ret
          exact ⟨by first | rfl | (simp [errW_none, errW_some] <;> rfl) | (simp [*, errW_none, errW_some] <;> rfl), by repeat (first | (with_reducible first | exact HB.out | apply below_alloc | apply pw_below_drewN | apply below_drew1 | refine below_set ?_ GE456.out) | exact HB.out)⟩
         ·
          replace c76 := Bool.eq_false_iff.mpr c76
          subst c76
          have H1 : (some false) = some r := by rw [if_neg (show ¬ (false = true) by decide)] at H; exact H
          clear H
          have H := H1
          clear H1
          obtain rfl := Option.some.inj H
          obtain ⟨Ao80, co80, eo80⟩ := Kd.R_slice HO_7.out
          subst eo80
          go_wp2_with (first | (go_at_call 23; (refine (kingpinlaw08_ints.calls kj20 _ _ t463 _ _ ([] : List Int) false _ ?side1 ?side2 ?side3 ?side4 A75.out).mono ?_); (case side1 => repeat (first | exact (Kd.R_reads' HO_7.out).2.2 | (with_reducible refine Kd.C_alloc ?_ _) | (with_reducible refine Kd.C_drewN ?_ _) | (with_reducible refine Kd.C_drew ?_))); (case side2 => exact (Kd.R_reads' HO_7.out).2.1); (case side3 => exact Kd.C_nil _ _); (case side4 => exact Nat.le_refl _); rintro e w' ⟨rfl, ⟨nd, rfl⟩⟩))
          go_ret
          exact ⟨by first | rfl | (simp [errW_none, errW_some] <;> rfl) | (simp [*, errW_none, errW_some] <;> rfl), by repeat (first | (with_reducible first | exact HB.out | apply below_alloc | apply pw_below_drewN | apply below_drew1 | refine below_set ?_ GE456.out) | exact HB.out)⟩
        ·
         rw [if_neg c74] at H
         have c74b0 : (t466 == t475) = false := beq_eq_false_iff_ne.mpr c74
         have c74b1 : (t466 != t475) = true := bne_iff_ne.mpr c74
         obtain rfl := Option.some.inj H
         go_wp2
         go_ret
         exact ⟨by first | rfl | (simp [errW_none, errW_some] <;> rfl) | (simp [*, errW_none, errW_some] <;> rfl), by repeat (first | (with_reducible first | exact HB.out | apply below_alloc | apply pw_below_drewN | apply below_drew1 | refine below_set ?_ GE456.out) | exact HB.out)⟩
end Go.Proofs.Ytmnamkcjldaoeaa.PAll
namespace Go.Proofs.Ytmnamkcjldaoeaa.PAll
open Go.RowKit Go.Proofs.YtmnamkcjldaoeaaW.PrintWords Go.Proofs.YtmnamkcjldaoeaaW.PrintLast Go.Proofs.YtmnamkcjldaoeaaW.PrintMore
set_option linter.unusedVariables false
set_option linter.unusedSimpArgs false
set_option linter.unusedSectionVars false
theorem sorted_iff (xs : List Int) : ∀ j, sortedTo xs j = true ↔ ∀ i, i < j → ¬ xs.getD (i + 1) 0 < xs.getD i 0
 | 0 => ⟨fun _ i h => by omega, fun _ => rfl⟩
 | j + 1 => by
  rw [show sortedTo xs (j + 1) = if xs.getD (j + 1) 0 < xs.getD j 0 then false else sortedTo xs j from rfl]
  by_cases h : xs.getD (j + 1) 0 < xs.getD j 0
  ·
   rw [if_pos h]
   exact ⟨fun h2 => (by cases h2), fun h2 => absurd h (h2 j (by omega))⟩
  ·
   rw [if_neg h, sorted_iff xs j]
   constructor
   ·
    intro h2 i hi
    rcases Nat.lt_or_ge i j with hij | hij
    ·
     exact h2 i hij
    ·
     rw [show i = j from by omega]
     exact h
   ·
    exact fun h2 i hi => h2 i (by omega)
theorem turns_iff (xs : List Int) : ∀ j, turnsTo xs j = j - 1 ↔ ∀ i, 1 ≤ i → i < j → xs.getD i 0 ≠ xs.getD (i - 1) 0
 | 0 => ⟨fun _ i h1 h2 => by omega, fun _ => rfl⟩
 | j + 1 => by
  have ih := turns_iff xs j
  have hle := turnsTo_le xs j
  have he : turnsTo xs (j + 1) = turnsTo xs j + (if 1 ≤ j ∧ xs.getD j 0 ≠ xs.getD (j - 1) 0 then 1 else 0) := rfl
  by_cases hc : 1 ≤ j ∧ xs.getD j 0 ≠ xs.getD (j - 1) 0
  ·
   rw [if_pos hc] at he
   constructor
   ·
    intro h i h1 h2
    rcases Nat.lt_or_ge i j with hij | hij
    ·
     exact ih.1 (by omega) i h1 hij
    ·
     rw [show i = j from by omega]
     exact hc.2
   ·
    intro h
    have := ih.2 (fun i h1 h2 => h i h1 (by omega))
    omega
  ·
   rw [if_neg hc] at he
   constructor
   ·
    intro h i h1 h2
    omega
   ·
    intro h
    by_cases hj : 1 ≤ j
    ·
     exact absurd ⟨hj, h j hj (by omega)⟩ hc
    ·
     have : j = 0 := by omega
     subst this
     rfl
theorem dist_iff (xs : List Int) : distL xs = xs.length ↔ ∀ i, 1 ≤ i → i < xs.length → xs.getD i 0 ≠ xs.getD (i - 1) 0 := by
 unfold distL
 by_cases h : xs.length < 2
 ·
  rw [if_pos h]
  exact ⟨fun _ i h1 h2 => by omega, fun _ => rfl⟩
 ·
  rw [if_neg h, ← turns_iff]
  omega
theorem all_getD (xs : List Int) (p : Int → Prop) : (∀ x ∈ xs, p x) ↔ ∀ i, i < xs.length → p (xs.getD i 0) := by
 constructor
 ·
  intro h i hi
  rw [List.getD_eq_getElem?_getD, List.getElem?_eq_getElem hi, Option.getD_some]
  exact h _ (List.getElem_mem hi)
 ·
  intro h x hx
  obtain ⟨i, hi, rfl⟩ := List.getElem_of_mem hx
  have := h i hi
  rw [List.getD_eq_getElem?_getD, List.getElem?_eq_getElem hi, Option.getD_some] at this
  exact this
theorem listB_eq (n t : Int) (xs : List Int) : listB n t xs = okFrom n t xs 0 xs.length := by
 rw [Bool.eq_iff_iff, okFrom_iff]
 unfold listB
 simp only [Bool.and_eq_true, List.all_eq_true, decide_eq_true_eq, Bool.not_eq_true', sorted_iff, dist_iff]
 have hcon : xs.contains t = false ↔ ∀ x ∈ xs, x ≠ t := by
  rw [Bool.eq_false_iff, Ne, List.contains_iff_mem]
  exact ⟨fun h x hx e => h (e ▸ hx), fun h hm => h t hm rfl⟩
 rw [hcon, all_getD xs (fun x => teamB n x = true), all_getD xs (fun x => x ≠ t)]
 constructor
 ·
  rintro ⟨h1, h2, h3, h4⟩ j _ hj
  have a1 := h1 j (by omega)
  have a2 := h2 j (by omega)
  unfold teamB at a1
  unfold okI
  rw [a1, decide_eq_false a2]
  by_cases hj0 : j = 0
  ·
   rw [decide_eq_true hj0]
   rfl
  ·
   have a3 := h3 (j - 1) (by omega)
   have a4 := h4 j (by omega) (by omega)
   rw [show j - 1 + 1 = j from by omega] at a3
   rw [decide_eq_true (show xs.getD (j - 1) 0 < xs.getD j 0 by omega), Bool.or_true]
   rfl
 ·
  intro h
  have hI : ∀ j, j < xs.length → (0 ≤ xs.getD j 0 ∧ xs.getD j 0 < n) ∧ xs.getD j 0 ≠ t ∧ (j = 0 ∨ xs.getD (j - 1) 0 < xs.getD j 0) := by
   intro j hj
   have h2 := h j (Nat.zero_le _) (by omega)
   unfold okI at h2
   simp only [Bool.and_eq_true, decide_eq_true_eq, Bool.not_eq_true', decide_eq_false_iff_not, Bool.or_eq_true] at h2
   exact h2
  refine ⟨fun i hi => ?_, fun i hi => (hI i hi).2.1, fun i hi => ?_, fun i h1 hi => ?_⟩
  ·
   have := (hI i hi).1
   unfold teamB
   rw [decide_eq_true this.1, decide_eq_true this.2]
   rfl
  ·
   have := (hI (i + 1) (by omega)).2.2
   rw [show i + 1 - 1 = i from by omega] at this
   have := this.resolve_left (by omega)
   omega
  ·
   have := (hI i hi).2.2.resolve_left (by omega)
   omega
theorem dropG (l : List Int) (i : Nat) (h : i < l.length) : l.drop i = l.getD i 0 :: l.drop (i + 1) := by
 rw [dropI l i h, rd_getD]
theorem Less_ev (a b : List Int) (ha : a.length ≤ 1000) : Ev (fun k => kingpinref08_Less.f k a b) (lessL a b) := by
 unfold kingpinref08_Less.f lessL
 by_cases hl : a.length = b.length
 ·
  rw [if_pos hl]
  have main : ∀ (d i : Nat), a.length - i = d → i ≤ a.length → Ev (fun k => kingpinref08_Less.l0 k a b (i : Int)) (lexL (a.drop i) (b.drop i)) := by
   intro d
   induction d with
   | zero =>
    intro i hd hi
    obtain rfl : i = a.length := by omega
    rw [List.drop_length, hl, List.drop_length]
    refine Ev.step (f := fun k => kingpinref08_Less.j1 k a b (b.length : Int) false) (fun k => ?_) (Ev.step (f := fun _ => some false) (fun k => ?_) (Ev.now _))
    ·
     simp only [kingpinref08_Less.l0]
     rw [if_neg (by omega)]
    ·
     simp only [kingpinref08_Less.j1]
     rw [if_neg (by decide), decide_eq_false (by omega)]
   | succ d ih =>
    intro i hd hi
    rw [dropG a i (by omega), dropG b i (by omega)]
    have hlen : ((a.length : Int) == (b.length : Int)) = true := by rw [hl]; simp
    refine Ev.step (f := fun k => kingpinref08_Less.j1 k a b (i : Int) true) (fun k => ?_) ?_
    ·
     simp only [kingpinref08_Less.l0]
     rw [if_pos (by omega), hlen]
    ·
     rw [show lexL (a.getD i 0 :: a.drop (i + 1)) (b.getD i 0 :: b.drop (i + 1)) = if a.getD i 0 = b.getD i 0 then lexL (a.drop (i + 1)) (b.drop (i + 1)) else decide (a.getD i 0 < b.getD i 0) from rfl]
     by_cases he : a.getD i 0 = b.getD i 0
     ·
      rw [if_pos he]
      refine Ev.step (fun k => ?_) (ih (i + 1) (by omega) (by omega))
      simp only [kingpinref08_Less.j1]
      rw [if_pos trivial, if_pos (by omega), if_pos (by omega), if_pos (by omega), rd_getD, rd_getD, if_pos he, wrapN i (by omega)]
     ·
      rw [if_neg he]
      refine Ev.step (f := fun _ => some (decide (a.getD i 0 < b.getD i 0))) (fun k => ?_) (Ev.now _)
      simp only [kingpinref08_Less.j1]
      rw [if_pos trivial, if_pos (by omega), if_pos (by omega), if_pos (by omega), rd_getD, rd_getD, if_neg he]
  exact main a.length 0 rfl (Nat.zero_le _)
 ·
  rw [if_neg hl]
  have hlen : ((a.length : Int) == (b.length : Int)) = false := by simp; omega
  refine Ev.step (f := fun k => kingpinref08_Less.j1 k a b 0 false) (fun k => ?_) (Ev.step (f := fun _ => some (decide ((a.length : Int) < (b.length : Int)))) (fun k => rfl) ?_)
  ·
   simp only [kingpinref08_Less.l0]
   split
   ·
    rw [hlen]
   ·
    rfl
  ·
   rw [show decide ((a.length : Int) < (b.length : Int)) = decide (a.length < b.length) from by
    by_cases h : a.length < b.length
    ·
     rw [decide_eq_true h, decide_eq_true (by omega)]
    ·
     rw [decide_eq_false h, decide_eq_false (by omega)]]
   exact Ev.now _
def subF (b : Nat) : Nat → Nat → List Int
 | 0, _ => []
 | d + 1, i => if b / 2 ^ i % 2 = 1 then (i : Int) :: subF b d (i + 1) else subF b d (i + 1)
theorem sub_all : ((List.range 7).all fun n => (List.range 64).all fun b => decide (subF b n 0 = subN n b)) = true := by kernel_rfl
theorem bit_all : ((List.range 64).all fun b => (List.range 6).all fun i => decide ((Int.tmod (shr .i64 (b : Nat) (IntKind.u64.wrap (i : Nat))) 2 = 1) ↔ b / 2 ^ i % 2 = 1) && decide (0 ≤ IntKind.u64.wrap ((i : Nat) : Int))) = true := by kernel_rfl
theorem okr_all : ((List.range 7).all fun n => (List.range 6).all fun t => (subsL n).all fun b => (okFrom n t b 0 b.length == !(b.contains (t : Int))) && decide (b.length ≤ 6)) = true := by kernel_rfl
theorem sub_eq (n b : Nat) (hn : n < 7) (hb : b < 64) : subF b n 0 = subN n b := by
 have := List.all_eq_true.1 (List.all_eq_true.1 sub_all n (List.mem_range.2 hn)) b (List.mem_range.2 hb)
 exact of_decide_eq_true this
theorem bit_eq (b i : Nat) (hb : b < 64) (hi : i < 6) : (Int.tmod (shr .i64 (b : Int) (IntKind.u64.wrap (i : Int))) 2 = 1 ↔ b / 2 ^ i % 2 = 1) ∧ 0 ≤ IntKind.u64.wrap (i : Int) := by
 have := List.all_eq_true.1 (List.all_eq_true.1 bit_all b (List.mem_range.2 hb)) i (List.mem_range.2 hi)
 rw [Bool.and_eq_true, decide_eq_true_eq, decide_eq_true_eq] at this
 exact this
theorem two_pow (n : Nat) (n2 : 2 ≤ n) (n6 : n ≤ 6) : shl .i64 1 (IntKind.u64.wrap (n : Int)) = ((2 ^ n : Nat) : Int) ∧ 0 ≤ IntKind.u64.wrap (n : Int) ∧ 2 ^ n ≤ 64 ∧ 1 ≤ 2 ^ n := by
 have : n = 2 ∨ n = 3 ∨ n = 4 ∨ n = 5 ∨ n = 6 := by omega
 rcases this with rfl | rfl | rfl | rfl | rfl <;> decide
def bestFrom (n : Nat) (ok : List Int → Bool) : List Int → Nat → Nat → List Int
 | best, _, 0 => best
 | best, b, d + 1 => bestFrom n ok (bestStep ok best (subN n b)) (b + 1) d
theorem bestFrom_eq (n : Nat) (ok : List Int → Bool) : ∀ (d : Nat) (best : List Int) (b : Nat), bestFrom n ok best b d = ((List.range' b d).map (subN n)).foldl (bestStep ok) best
 | 0, best, b => rfl
 | d + 1, best, b => by
  rw [show bestFrom n ok best b (d + 1) = bestFrom n ok (bestStep ok best (subN n b)) (b + 1) d from rfl, bestFrom_eq n ok d, List.range'_succ, List.map_cons, List.foldl_cons]
theorem subs_eq (n : Nat) : (List.range' 1 (2 ^ n - 1)).map (subN n) = subsL n := by
 unfold subsL
 rw [List.range'_eq_map_range, List.map_map]
 refine List.map_congr_left fun i _ => ?_
 show subN n (1 + i) = subN n (i + 1)
 rw [Nat.add_comm]
theorem bestStep_len (ok : List Int → Bool) (best b : List Int) (h1 : best.length ≤ 6) (h2 : b.length ≤ 6) : (bestStep ok best b).length ≤ 6 := by
 unfold bestStep
 split
 ·
  split
  ·
   exact h2
  ·
   split
   ·
    exact h2
   ·
    exact h1
 ·
  exact h1
theorem Reason_ev (N T : Nat) (l : List S70) (hc : checkF (N : Int) (l.map toG) = 0) (hT : T < N) :
  Ev (fun k => kingpinref08_Reason.f k (N : Int) l (T : Int)) ((manyF (N : Int) (T : Int) (ruledF (reachF (l.map toG) (T : Int)) (sumsF (l.map toG)) (openG (l.map toG))) (N - 1) 1).getD []) := by
 obtain ⟨n2, n6, h20, hne⟩ := ok70 (N : Int) l hc
 have n2 : 2 ≤ N := by omega
 have n6 : N ≤ 6 := by omega
 obtain ⟨hp1, hp2, hp3, hp4⟩ := two_pow N n2 n6
 obtain ⟨P, hP⟩ : ∃ P, ruledF (reachF (l.map toG) (T : Int)) (sumsF (l.map toG)) (openG (l.map toG)) = P := ⟨_, rfl⟩
 have hmem : ∀ b, 1 ≤ b → b < 2 ^ N → subN N b ∈ subsL N := by
  intro b hb1 hb2
  rw [← subs_eq]
  exact List.mem_map.2 ⟨b, List.mem_range'.2 ⟨b - 1, by omega, by omega⟩, rfl⟩
 have hok : ∀ b ∈ subsL N, okFrom N T b 0 b.length = !(b.contains (T : Int)) ∧ b.length ≤ 6 := by
  intro b hb
  have := List.all_eq_true.1 (List.all_eq_true.1 (List.all_eq_true.1 okr_all N (List.mem_range.2 (by omega))) T (List.mem_range.2 (by omega))) b hb
  rw [Bool.and_eq_true, decide_eq_true_eq, beq_iff_eq] at this
  exact this
 obtain ⟨ok, hokd⟩ : ∃ ok : List Int → Bool, ok = fun b => okFrom N T b 0 b.length && P b := ⟨_, rfl⟩
 have l1 : ∀ (b : Nat), 1 ≤ b → b < 2 ^ N → ∀ (best : List Int), best.length ≤ 6 → ∀ (R : List Int), Ev (fun k => kingpinref08_Reason.l0 k (T : Int) (bestStep ok best (subN N b)) ((b + 1 : Nat) : Int) (N : Int) l) R →
   ∀ (d i : Nat) (acc : List Int), N - i = d → i ≤ N → acc.length ≤ i → acc ++ subF b d i = subN N b → Ev (fun k => kingpinref08_Reason.l1 k (T : Int) best (b : Int) acc (i : Int) (N : Int) l) R := by
  intro b hb1 hb2 best hbest R H d
  induction d with
  | zero =>
   intro i acc hd hi hacc he
   obtain rfl : i = N := by omega
   rw [show acc ++ subF b 0 i = acc from List.append_nil acc] at he
   subst he
   have hm := hmem b hb1 hb2
   obtain ⟨o1, o2⟩ := hok _ hm
   refine Ev.step (f := fun k => (kingpinref08_RulesOut.f (i : Int) l (T : Int) (subN i b)).bind fun t467 => (if t467 = true then (if (best.length : Int) = 0 then (kingpinref08_Reason.l0 k (T : Int) (subN i b) ((b + 1 : Nat) : Int) (i : Int) l) else ((kingpinref08_Less.f k (subN i b) best).bind fun t468 => (if t468 = true then (kingpinref08_Reason.l0 k (T : Int) (subN i b) ((b + 1 : Nat) : Int) (i : Int) l) else (kingpinref08_Reason.l0 k (T : Int) best ((b + 1 : Nat) : Int) (i : Int) l)))) else (kingpinref08_Reason.l0 k (T : Int) best ((b + 1 : Nat) : Int) (i : Int) l))) (fun k => ?_) ?_
   ·
    simp only [kingpinref08_Reason.l1]
    rw [if_neg (by omega), wrapN b (by omega)]
   ·
    refine Ev.bind (RulesOut_ev (i : Int) l hc (T : Int) (by omega) (subN i b) (by omega)) ?_
    rw [hP]
    unfold bestStep at H
    rw [show ok (subN i b) = (okFrom i T (subN i b) 0 (subN i b).length && P (subN i b)) from by rw [hokd]] at H
    cases hq : (okFrom i T (subN i b) 0 (subN i b).length && P (subN i b)) with
    | false =>
     rw [hq] at H
     exact H
    | true =>
     rw [hq] at H
     simp only [if_true] at H ⊢
     by_cases hbe : best = []
     ·
      rw [if_pos hbe] at H
      simp only [if_pos (show (best.length : Int) = 0 by rw [hbe]; rfl)]
      exact H
     ·
      have hbl : 0 < best.length := List.length_pos_iff.2 hbe
      rw [if_neg hbe] at H
      simp only [if_neg (show ¬ (best.length : Int) = 0 by omega)]
      refine Ev.bind (Less_ev (subN i b) best (by omega)) ?_
      cases hl : lessL (subN i b) best with
      | true =>
       rw [hl] at H
       exact H
      | false =>
       rw [hl] at H
       exact H
  | succ d ih =>
   intro i acc hd hi hacc he
   obtain ⟨k1, k2⟩ := bit_eq b i (by omega) (by omega)
   by_cases hbit : b / 2 ^ i % 2 = 1
   ·
    rw [show subF b (d + 1) i = (i : Int) :: subF b d (i + 1) from if_pos hbit] at he
    refine Ev.step (fun k => ?_) (ih (i + 1) (acc ++ [(i : Int)]) (by omega) (by omega) (by simp; omega) (by simpa using he))
    simp only [kingpinref08_Reason.l1]
    rw [if_pos (by omega), if_pos k2, if_pos (k1.2 hbit), if_pos (by omega), wrapN i (by omega)]
   ·
    rw [show subF b (d + 1) i = subF b d (i + 1) from if_neg hbit] at he
    refine Ev.step (fun k => ?_) (ih (i + 1) acc (by omega) (by omega) (by omega) he)
    simp only [kingpinref08_Reason.l1]
    rw [if_pos (by omega), if_pos k2, if_neg (fun h => hbit (k1.1 h)), wrapN i (by omega)]
 have l0 : ∀ (d b : Nat) (best : List Int), 2 ^ N - b = d → 1 ≤ b → b ≤ 2 ^ N → best.length ≤ 6 → Ev (fun k => kingpinref08_Reason.l0 k (T : Int) best (b : Int) (N : Int) l) (bestFrom N ok best b d) := by
  intro d
  induction d with
  | zero =>
   intro b best hd hb1 hb2 hbest
   refine Ev.step (f := fun _ => some best) (fun k => ?_) (Ev.now _)
   simp only [kingpinref08_Reason.l0]
   rw [if_pos hp2, hp1, if_neg (by omega)]
  | succ d ih =>
   intro b best hd hb1 hb2 hbest
   have hm := hmem b hb1 (by omega)
   refine Ev.step (f := fun k => kingpinref08_Reason.l1 k (T : Int) best (b : Int) [] ((0 : Nat) : Int) (N : Int) l) (fun k => ?_) ?_
   ·
    simp only [kingpinref08_Reason.l0]
    rw [if_pos hp2, hp1, if_pos (by omega)]
    rfl
   ·
    exact l1 b hb1 (by omega) best hbest _ (ih (b + 1) _ (by omega) (by omega) (by omega) (bestStep_len ok best _ hbest (hok _ hm).2)) N 0 [] rfl (Nat.zero_le _) (Nat.le_refl _) (by rw [List.nil_append]; exact sub_eq N b (by omega) (by omega))
 have h := l0 (2 ^ N - 1) 1 [] rfl (Nat.le_refl _) hp4 (by simp)
 rw [bestFrom_eq, subs_eq] at h
 rw [hP, ← search_eq N T n2 n6 hT P]
 have hcg : ∀ (B : List (List Int)) (best : List Int), (∀ b ∈ B, b ∈ subsL N) → B.foldl (bestStep ok) best = B.foldl (bestStep fun b => !(b.contains (T : Int)) && P b) best := by
  intro B
  induction B with
  | nil => exact fun _ _ => rfl
  | cons b B ih =>
   intro best hB
   rw [List.foldl_cons, List.foldl_cons, ih _ (fun x hx => hB x (List.mem_cons_of_mem _ hx))]
   congr 1
   unfold bestStep
   rw [hokd]
   simp only [(hok b (hB b List.mem_cons_self)).1]
 rw [hcg _ _ (fun b hb => hb)] at h
 exact h
theorem teamed_ev (a : Int) (l : List S70) (t : Int) : Ev (fun _ => kingpinlaw08_teamed.f a l t) (askF a (l.map toG) t) := by
 refine Ev.congr (f := fun _ => some (askF a (l.map toG) t)) (fun k => ?_) (Ev.now _)
 unfold kingpinlaw08_teamed.f kingpinlaw08_fault.f kingpinref08_Fault.f askF
 simp only [Option.bind_some]
 by_cases h : checkF a (l.map toG) = 0
 ·
  obtain ⟨_, n2, n6, _⟩ := check_ok h
  rw [if_pos h, if_pos h, In_eq, IntWalk.wrap64_in (a - 1) ⟨by omega, by omega⟩, Option.bind_some]
  by_cases h2 : 0 ≤ t ∧ t < a
  ·
   rw [if_pos h2, decide_eq_true h2.1, decide_eq_true (by omega)]
   rfl
  ·
   rw [if_neg h2, if_neg (fun hh => h2 (by
    rw [Bool.and_eq_true, decide_eq_true_eq, decide_eq_true_eq] at hh
    exact ⟨hh.1, by omega⟩))]
 ·
  rw [if_neg h, if_neg h]
end Go.Proofs.Ytmnamkcjldaoeaa.PAll
namespace Go.Proofs.Ytmnamkcjldaoeaa.PAll
open Go.RowKit Go.Proofs.YtmnamkcjldaoeaaW.PrintWords Go.Proofs.YtmnamkcjldaoeaaW.PrintLast Go.Proofs.YtmnamkcjldaoeaaW.PrintMore
set_option linter.unusedVariables false
set_option linter.unusedSimpArgs false
theorem combos_len (n team : Int) : ∀ (m : Nat) (l : List Int) (t : Int), ∀ x ∈ combos n team m l t, x.length = l.length + m
 | 0, l, t, x, hx => by
  rw [show combos n team 0 l t = [l] from rfl, List.mem_singleton] at hx
  rw [hx]
  rfl
 | m + 1, l, t, x, hx => by
  have scan : ∀ (k : Nat) (l : List Int) (t : Int), ∀ x ∈ scanC (combos n team m) team k l t, x.length = l.length + (m + 1) := by
   intro k
   induction k with
   | zero => exact fun l t x hx => by cases hx
   | succ k ih =>
    intro l t x hx
    unfold scanC at hx
    split at hx
    ·
     rcases List.mem_append.1 hx with hx | hx
     ·
      have := combos_len n team m _ _ x hx
      rw [this, List.length_append]
      simp
      omega
     ·
      exact ih l (t + 1) x hx
    ·
     exact ih l (t + 1) x hx
  exact scan _ l t x hx
theorem many_len (n team : Int) (P : List Int → Bool) (k m : Nat) (x : List Int) (h : manyF n team P k m = some x) : P x = true ∧ x.length ≤ m + k := by
 rw [many_find] at h
 refine ⟨List.find?_some h, ?_⟩
 have hm := List.mem_of_find?_eq_some h
 have : ∀ (k m : Nat), ∀ x ∈ allC n team k m, x.length ≤ m + k := by
  intro k
  induction k with
  | zero => exact fun m x hx => by cases hx
  | succ k ih =>
   intro m x hx
   unfold allC at hx
   rcases List.mem_append.1 hx with hx | hx
   ·
    have := combos_len n team m [] 0 x hx
    simp at this
    omega
   ·
    have := ih (m + 1) x hx
    omega
 exact this k m x hm
theorem Reasons_ev (a : Int) (l : List S70) (t : Int) (xs : List Int) : Ev (fun k => kingpinlaw08_LeagueReasons.f k a l t xs) true := by
 have hawk : Ev (fun k => (kingpinlaw08_awake.f).bind fun t => some t) true := Ev.bind awake_ev (Ev.now _)
 have haw : Ev (fun k => kingpinlaw08_LeagueReasons.j0 k t xs true a l) true := Ev.step (f := fun k => (kingpinlaw08_awake.f).bind fun t => some t) (fun k => rfl) hawk
 unfold kingpinlaw08_LeagueReasons.f kingpinlaw08_Thin.f
 simp only [Option.bind_some, decide_eq_true_eq]
 by_cases ht : (l.length : Int) ≤ 24
 ·
  simp only [if_pos ht]
  by_cases h9 : (xs.length : Int) > 9
  ·
   rw [decide_eq_true h9]
   exact haw
  ·
   rw [decide_eq_false h9]
   have hlist : kingpinlaw08_list.f xs = some xs := by
    unfold kingpinlaw08_list.f
    rw [if_pos (by omega)]
   have hro : league_RulesOut.f a (l.map toG) t xs = some (rulesOutF a (l.map toG) t xs) := by
    unfold league_RulesOut.f
    rw [if_pos (by omega)]
   obtain ⟨w, hw⟩ : ∃ w, askF a (l.map toG) t = w := ⟨_, rfl⟩
   have hte := teamed_ev a l t
   rw [hw] at hte
   obtain ⟨⟨r, e⟩, hre⟩ : ∃ p, reasonF a (l.map toG) t = p := ⟨_, rfl⟩
   refine Ev.step (f := fun k => (kingpinlaw08_League.f k a l).bind fun bt472 => ((league_Reason.f bt472.1 bt472.2 t).bind fun bt476 => ((kingpinlaw08_League.f k a l).bind fun bt480 => ((kingpinlaw08_list.f xs).bind fun t484 => ((league_RulesOut.f bt480.1 bt480.2 t t484).bind fun t487 => ((kingpinlaw08_teamed.f a l t).bind fun t488 => (if t488 = 0 then ((kingpinref08_RulesOut.f a l t xs).bind fun t489 => (kingpinlaw08_LeagueReasons.j1 k t bt476.1 bt476.2 t488 (t487 != t489) a l)) else (kingpinlaw08_LeagueReasons.j1 k t bt476.1 bt476.2 t488 (t487 != false) a l)))))))) (fun k => rfl) ?_
   refine Ev.bind (League_ev a l (by omega)) ?_
   simp only [league_Reason.f, hre, Option.bind_some]
   refine Ev.bind (League_ev a l (by omega)) ?_
   simp only [hlist, hro, Option.bind_some]
   refine Ev.bind hte ?_
   by_cases h0 : w = 0
   ·
    subst h0
    simp only [eq_self, if_true]
    have hc : checkF a (l.map toG) = 0 ∧ 0 ≤ t ∧ t < a := by
     unfold askF at hw
     split at hw
     ·
      split at hw
      ·
       exact ⟨by assumption, by assumption⟩
      ·
       cases hw
     ·
      exact absurd hw (by assumption)
    obtain ⟨hc, t0, ta⟩ := hc
    obtain ⟨n2, n6, h20, hne⟩ := ok70 a l hc
    obtain ⟨N, rfl⟩ : ∃ N : Nat, a = N := ⟨a.toNat, by omega⟩
    obtain ⟨T, rfl⟩ : ∃ T : Nat, t = T := ⟨t.toNat, by omega⟩
    refine Ev.bind (RulesOut_ev (N : Int) l hc (T : Int) t0 xs (by omega)) ?_
    have heq : (rulesOutF (N : Int) (l.map toG) (T : Int) xs != (okFrom (N : Int) (T : Int) xs 0 xs.length && ruledF (reachF (l.map toG) (T : Int)) (sumsF (l.map toG)) (openG (l.map toG)) xs)) = false := by
     unfold rulesOutF
     rw [hw, listB_eq, decide_eq_true rfl, Bool.true_and]
     simp
    rw [heq]
    obtain ⟨P, hP⟩ : ∃ P, ruledF (reachF (l.map toG) (T : Int)) (sumsF (l.map toG)) (openG (l.map toG)) = P := ⟨_, rfl⟩
    have hRe := Reason_ev N T l hc (by omega)
    rw [hP] at hRe
    unfold reasonF at hre
    rw [hw, if_pos rfl, hP, show ((N : Int) - 1).toNat = N - 1 from by omega] at hre
    refine Ev.step (f := fun k => (kingpinref08_Reason.f k (N : Int) l (T : Int)).bind fun t490 => (if (t490.length : Int) = 0 then (if e = 7 then ((kingpinlaw08_ints.f k r t490).bind fun t493 => (if t493 = true then ((kingpinlaw08_awake.f).bind fun t494 => (some t494)) else (some false))) else (some false)) else (if e = 0 then ((kingpinlaw08_ints.f k r t490).bind fun t495 => (if t495 = true then ((kingpinlaw08_awake.f).bind fun t496 => (some t496)) else (some false))) else (some false)))) (fun k => rfl) ?_
    refine Ev.bind hRe ?_
    cases hm : manyF (N : Int) (T : Int) P (N - 1) 1 with
    | none =>
     rw [hm] at hre
     cases hre
     simp only [Option.getD_none, List.length_nil]
     simp only [if_pos (show ((0 : Nat) : Int) = 0 from rfl), if_true]
     exact Ev.bind (ints_self [] (by simp)) hawk
    | some x =>
     rw [hm] at hre
     have hre2 : r = x ∧ e = 0 := by
      cases hre
      exact ⟨rfl, rfl⟩
     obtain ⟨rfl, rfl⟩ := hre2
     obtain ⟨hPx, hlx⟩ := many_len _ _ _ _ _ _ hm
     have hpos : 0 < r.length := by
      rw [← hP] at hPx
      unfold ruledF at hPx
      rw [Bool.and_eq_true, decide_eq_true_eq] at hPx
      exact hPx.1
     simp only [Option.getD_some, if_neg (show ¬ (r.length : Int) = 0 by omega), if_true]
     exact Ev.bind (ints_self r (by omega)) hawk
   ·
    simp only [if_neg h0]
    have hp : (rulesOutF a (l.map toG) t xs != false) = false := by
     unfold rulesOutF
     rw [hw, decide_eq_false h0, Bool.false_and]
     rfl
    rw [hp]
    have hre2 : r = [] ∧ e = w := by
     unfold reasonF at hre
     rw [hw, if_neg h0] at hre
     cases hre
     exact ⟨rfl, rfl⟩
    obtain ⟨rfl, rfl⟩ := hre2
    refine Ev.step (f := fun k => (kingpinlaw08_ints.f k [] ([] : List Int)).bind fun t497 => (if t497 = true then ((kingpinlaw08_awake.f).bind fun t498 => (some t498)) else (some false))) (fun k => ?_) (Ev.bind (ints_self [] (by simp)) hawk)
    simp only [kingpinlaw08_LeagueReasons.j1]
    rw [if_neg (by decide), if_neg h0, if_pos trivial]
 ·
  simp only [if_neg ht]
  exact haw
end Go.Proofs.Ytmnamkcjldaoeaa.PAll
