/- Parts of the proof of leagueGives_holds, in order: HAwake, HP1, HP4, HP7, F7, L7 -/
import Derived.Test.YtmnamkcjldaoeaaKGives3
import Derived.Test.YtmnamkcjldaoeaaKGives11
import Derived.Test.YtmnamkcjldaoeaaKGives13
import Derived.Test.YtmnamkcjldaoeaaKGives14
import Derived.Test.YtmnamkcjldaoeaaKGives16
import Derived.Test.YtmnamkcjldaoeaaKGives17
namespace Go.Proofs.Ytmnamkcjldaoeaa.PAll
open Go.RowKit Go.Proofs.YtmnamkcjldaoeaaW.PrintWords Go.Proofs.YtmnamkcjldaoeaaW.PrintLast Go.Proofs.YtmnamkcjldaoeaaW.PrintMore
attribute [local go_sem] max2_int min2_int max_two min_two max_three min_three max_four min_four   -- for this text's walks alone
set_option linter.unusedVariables false
set_option linter.unusedSimpArgs false
def awakeF (k : Nat)  : Option (Bool) := (kingpinlaw08_played.f).bind fun bt176 => ((league_Rank.f k bt176.1 bt176.2 (([1, 3] : List Int))).bind fun bt183 => ((kingpinlaw08_played.f).bind fun bt187 => ((league_After.f bt187.1 bt187.2 (([3, 2] : List Int))).bind fun bt194 => ((kingpinlaw08_played.f).bind fun bt198 => ((league_Reason.f bt198.1 bt198.2 2).bind fun bt202 => ((league_Build.f 4).bind fun bt206 => (if bt183.2 = 0 then ((kingpinlaw08_ints.f k bt183.1 (([1, 1, 3, 4] : List Int))).bind fun t213 => (if t213 = true then (if bt194.2 = 0 then ((kingpinlaw08_ints.f k bt194.1 (([2, 3, 2, 3] : List Int))).bind fun t217 => (if t217 = true then (if bt202.2 = 0 then ((kingpinlaw08_ints.f k bt202.1 (([0, 1, 3] : List Int))).bind fun t221 => (if t221 = true then (if bt206.2 = 0 then ((league_ProveSchedule.f 4 bt206.1 3).bind fun t222 => (if t222 = true then ((league_ProveSchedule.f 4 bt206.1 2).bind fun t223 => (some (!t223))) else (some false))) else (some false)) else (some false))) else (some false)) else (some false))) else (some false)) else (some false))) else (some false))))))))
set_option maxHeartbeats 8000000 in
set_option maxRecDepth 100000 in
theorem awake_calls (k : Nat) (r : Bool) (w : World) (hr : r = true) (h : awakeF k = some r) :
  Calls Try.prog 16 #[] w fun e w' => e = .returned (.bool r) ∧ Below w.heap.size w w' := by
 have HB := Aside0.mk (Below.refl w.heap.size w)
 have H : ((kingpinlaw08_played.f).bind fun bt176 => ((league_Rank.f k bt176.1 bt176.2 (([1, 3] : List Int))).bind fun bt183 => ((kingpinlaw08_played.f).bind fun bt187 => ((league_After.f bt187.1 bt187.2 (([3, 2] : List Int))).bind fun bt194 => ((kingpinlaw08_played.f).bind fun bt198 => ((league_Reason.f bt198.1 bt198.2 2).bind fun bt202 => ((league_Build.f 4).bind fun bt206 => (if bt183.2 = 0 then ((kingpinlaw08_ints.f k bt183.1 (([1, 1, 3, 4] : List Int))).bind fun t213 => (if t213 = true then (if bt194.2 = 0 then ((kingpinlaw08_ints.f k bt194.1 (([2, 3, 2, 3] : List Int))).bind fun t217 => (if t217 = true then (if bt202.2 = 0 then ((kingpinlaw08_ints.f k bt202.1 (([0, 1, 3] : List Int))).bind fun t221 => (if t221 = true then (if bt206.2 = 0 then ((league_ProveSchedule.f 4 bt206.1 3).bind fun t222 => (if t222 = true then ((league_ProveSchedule.f 4 bt206.1 2).bind fun t223 => (some (!t223))) else (some false))) else (some false)) else (some false))) else (some false)) else (some false))) else (some false)) else (some false))) else (some false))))))))) = some r := h
 clear h
 replace H := Option.bind_eq_some_iff.mp H
 obtain ⟨⟨t176, t177⟩, A10, H⟩ := H
 replace H : ((league_Rank.f k t176 t177 (([1, 3] : List Int))).bind fun bt183 => ((kingpinlaw08_played.f).bind fun bt187 => ((league_After.f bt187.1 bt187.2 (([3, 2] : List Int))).bind fun bt194 => ((kingpinlaw08_played.f).bind fun bt198 => ((league_Reason.f bt198.1 bt198.2 2).bind fun bt202 => ((league_Build.f 4).bind fun bt206 => (if bt183.2 = 0 then ((kingpinlaw08_ints.f k bt183.1 (([1, 1, 3, 4] : List Int))).bind fun t213 => (if t213 = true then (if bt194.2 = 0 then ((kingpinlaw08_ints.f k bt194.1 (([2, 3, 2, 3] : List Int))).bind fun t217 => (if t217 = true then (if bt202.2 = 0 then ((kingpinlaw08_ints.f k bt202.1 (([0, 1, 3] : List Int))).bind fun t221 => (if t221 = true then (if bt206.2 = 0 then ((league_ProveSchedule.f 4 bt206.1 3).bind fun t222 => (if t222 = true then ((league_ProveSchedule.f 4 bt206.1 2).bind fun t223 => (some (!t223))) else (some false))) else (some false)) else (some false))) else (some false)) else (some false))) else (some false)) else (some false))) else (some false)))))))) = some r := H
 have A1 := Aside0.mk A10
 clear A10
 obtain ⟨y180, hy180⟩ : ∃ y_ : List Int, y_ = (([1, 3] : List Int)) := ⟨_, rfl⟩
 replace H : ((league_Rank.f k t176 t177 y180).bind fun bt183 => ((kingpinlaw08_played.f).bind fun bt187 => ((league_After.f bt187.1 bt187.2 (([3, 2] : List Int))).bind fun bt194 => ((kingpinlaw08_played.f).bind fun bt198 => ((league_Reason.f bt198.1 bt198.2 2).bind fun bt202 => ((league_Build.f 4).bind fun bt206 => (if bt183.2 = 0 then ((kingpinlaw08_ints.f k bt183.1 (([1, 1, 3, 4] : List Int))).bind fun t213 => (if t213 = true then (if bt194.2 = 0 then ((kingpinlaw08_ints.f k bt194.1 (([2, 3, 2, 3] : List Int))).bind fun t217 => (if t217 = true then (if bt202.2 = 0 then ((kingpinlaw08_ints.f k bt202.1 (([0, 1, 3] : List Int))).bind fun t221 => (if t221 = true then (if bt206.2 = 0 then ((league_ProveSchedule.f 4 bt206.1 3).bind fun t222 => (if t222 = true then ((league_ProveSchedule.f 4 bt206.1 2).bind fun t223 => (some (!t223))) else (some false))) else (some false)) else (some false))) else (some false)) else (some false))) else (some false)) else (some false))) else (some false)))))))) = some r := by first | (rw [hy180]; with_reducible exact H) | (have H2_ := (Option.bind_some _ _).symm.trans H; rw [hy180]; with_reducible exact H2_) | (have H2_ := (Option.bind_some _ _).symm.trans H; with_reducible exact H2_) | with_reducible exact H | (rw [hy180]; exact H) | exact H
 have Ny180 := Aside0.mk hy180
 clear hy180
 replace H := Option.bind_eq_some_iff.mp H
 obtain ⟨⟨t183, t186⟩, A20, H⟩ := H
 replace H : ((kingpinlaw08_played.f).bind fun bt187 => ((league_After.f bt187.1 bt187.2 (([3, 2] : List Int))).bind fun bt194 => ((kingpinlaw08_played.f).bind fun bt198 => ((league_Reason.f bt198.1 bt198.2 2).bind fun bt202 => ((league_Build.f 4).bind fun bt206 => (if t186 = 0 then ((kingpinlaw08_ints.f k t183 (([1, 1, 3, 4] : List Int))).bind fun t213 => (if t213 = true then (if bt194.2 = 0 then ((kingpinlaw08_ints.f k bt194.1 (([2, 3, 2, 3] : List Int))).bind fun t217 => (if t217 = true then (if bt202.2 = 0 then ((kingpinlaw08_ints.f k bt202.1 (([0, 1, 3] : List Int))).bind fun t221 => (if t221 = true then (if bt206.2 = 0 then ((league_ProveSchedule.f 4 bt206.1 3).bind fun t222 => (if t222 = true then ((league_ProveSchedule.f 4 bt206.1 2).bind fun t223 => (some (!t223))) else (some false))) else (some false)) else (some false))) else (some false)) else (some false))) else (some false)) else (some false))) else (some false))))))) = some r := H
 have A2 := Aside0.mk A20
 clear A20
 replace H := Option.bind_eq_some_iff.mp H
 obtain ⟨⟨t187, t188⟩, A30, H⟩ := H
 replace H : ((league_After.f t187 t188 (([3, 2] : List Int))).bind fun bt194 => ((kingpinlaw08_played.f).bind fun bt198 => ((league_Reason.f bt198.1 bt198.2 2).bind fun bt202 => ((league_Build.f 4).bind fun bt206 => (if t186 = 0 then ((kingpinlaw08_ints.f k t183 (([1, 1, 3, 4] : List Int))).bind fun t213 => (if t213 = true then (if bt194.2 = 0 then ((kingpinlaw08_ints.f k bt194.1 (([2, 3, 2, 3] : List Int))).bind fun t217 => (if t217 = true then (if bt202.2 = 0 then ((kingpinlaw08_ints.f k bt202.1 (([0, 1, 3] : List Int))).bind fun t221 => (if t221 = true then (if bt206.2 = 0 then ((league_ProveSchedule.f 4 bt206.1 3).bind fun t222 => (if t222 = true then ((league_ProveSchedule.f 4 bt206.1 2).bind fun t223 => (some (!t223))) else (some false))) else (some false)) else (some false))) else (some false)) else (some false))) else (some false)) else (some false))) else (some false)))))) = some r := H
 have A3 := Aside0.mk A30
 clear A30
 obtain ⟨y191, hy191⟩ : ∃ y_ : List Int, y_ = (([3, 2] : List Int)) := ⟨_, rfl⟩
 replace H : ((league_After.f t187 t188 y191).bind fun bt194 => ((kingpinlaw08_played.f).bind fun bt198 => ((league_Reason.f bt198.1 bt198.2 2).bind fun bt202 => ((league_Build.f 4).bind fun bt206 => (if t186 = 0 then ((kingpinlaw08_ints.f k t183 (([1, 1, 3, 4] : List Int))).bind fun t213 => (if t213 = true then (if bt194.2 = 0 then ((kingpinlaw08_ints.f k bt194.1 (([2, 3, 2, 3] : List Int))).bind fun t217 => (if t217 = true then (if bt202.2 = 0 then ((kingpinlaw08_ints.f k bt202.1 (([0, 1, 3] : List Int))).bind fun t221 => (if t221 = true then (if bt206.2 = 0 then ((league_ProveSchedule.f 4 bt206.1 3).bind fun t222 => (if t222 = true then ((league_ProveSchedule.f 4 bt206.1 2).bind fun t223 => (some (!t223))) else (some false))) else (some false)) else (some false))) else (some false)) else (some false))) else (some false)) else (some false))) else (some false)))))) = some r := by first | (rw [hy191]; with_reducible exact H) | (have H2_ := (Option.bind_some _ _).symm.trans H; rw [hy191]; with_reducible exact H2_) | (have H2_ := (Option.bind_some _ _).symm.trans H; with_reducible exact H2_) | with_reducible exact H | (rw [hy191]; exact H) | exact H
 have Ny191 := Aside0.mk hy191
 clear hy191
 replace H := Option.bind_eq_some_iff.mp H
 obtain ⟨⟨t194, t197⟩, A40, H⟩ := H
 replace H : ((kingpinlaw08_played.f).bind fun bt198 => ((league_Reason.f bt198.1 bt198.2 2).bind fun bt202 => ((league_Build.f 4).bind fun bt206 => (if t186 = 0 then ((kingpinlaw08_ints.f k t183 (([1, 1, 3, 4] : List Int))).bind fun t213 => (if t213 = true then (if t197 = 0 then ((kingpinlaw08_ints.f k t194 (([2, 3, 2, 3] : List Int))).bind fun t217 => (if t217 = true then (if bt202.2 = 0 then ((kingpinlaw08_ints.f k bt202.1 (([0, 1, 3] : List Int))).bind fun t221 => (if t221 = true then (if bt206.2 = 0 then ((league_ProveSchedule.f 4 bt206.1 3).bind fun t222 => (if t222 = true then ((league_ProveSchedule.f 4 bt206.1 2).bind fun t223 => (some (!t223))) else (some false))) else (some false)) else (some false))) else (some false)) else (some false))) else (some false)) else (some false))) else (some false))))) = some r := H
 have A4 := Aside0.mk A40
 clear A40
 replace H := Option.bind_eq_some_iff.mp H
 obtain ⟨⟨t198, t199⟩, A50, H⟩ := H
 replace H : ((league_Reason.f t198 t199 2).bind fun bt202 => ((league_Build.f 4).bind fun bt206 => (if t186 = 0 then ((kingpinlaw08_ints.f k t183 (([1, 1, 3, 4] : List Int))).bind fun t213 => (if t213 = true then (if t197 = 0 then ((kingpinlaw08_ints.f k t194 (([2, 3, 2, 3] : List Int))).bind fun t217 => (if t217 = true then (if bt202.2 = 0 then ((kingpinlaw08_ints.f k bt202.1 (([0, 1, 3] : List Int))).bind fun t221 => (if t221 = true then (if bt206.2 = 0 then ((league_ProveSchedule.f 4 bt206.1 3).bind fun t222 => (if t222 = true then ((league_ProveSchedule.f 4 bt206.1 2).bind fun t223 => (some (!t223))) else (some false))) else (some false)) else (some false))) else (some false)) else (some false))) else (some false)) else (some false))) else (some false)))) = some r := H
 have A5 := Aside0.mk A50
 clear A50
 replace H := Option.bind_eq_some_iff.mp H
 obtain ⟨⟨t202, t205⟩, A60, H⟩ := H
 replace H : ((league_Build.f 4).bind fun bt206 => (if t186 = 0 then ((kingpinlaw08_ints.f k t183 (([1, 1, 3, 4] : List Int))).bind fun t213 => (if t213 = true then (if t197 = 0 then ((kingpinlaw08_ints.f k t194 (([2, 3, 2, 3] : List Int))).bind fun t217 => (if t217 = true then (if t205 = 0 then ((kingpinlaw08_ints.f k t202 (([0, 1, 3] : List Int))).bind fun t221 => (if t221 = true then (if bt206.2 = 0 then ((league_ProveSchedule.f 4 bt206.1 3).bind fun t222 => (if t222 = true then ((league_ProveSchedule.f 4 bt206.1 2).bind fun t223 => (some (!t223))) else (some false))) else (some false)) else (some false))) else (some false)) else (some false))) else (some false)) else (some false))) else (some false))) = some r := H
 have A6 := Aside0.mk A60
 clear A60
 replace H := Option.bind_eq_some_iff.mp H
 obtain ⟨⟨t206, t207⟩, A70, H⟩ := H
 replace H : (if t186 = 0 then ((kingpinlaw08_ints.f k t183 (([1, 1, 3, 4] : List Int))).bind fun t213 => (if t213 = true then (if t197 = 0 then ((kingpinlaw08_ints.f k t194 (([2, 3, 2, 3] : List Int))).bind fun t217 => (if t217 = true then (if t205 = 0 then ((kingpinlaw08_ints.f k t202 (([0, 1, 3] : List Int))).bind fun t221 => (if t221 = true then (if t207 = 0 then ((league_ProveSchedule.f 4 t206 3).bind fun t222 => (if t222 = true then ((league_ProveSchedule.f 4 t206 2).bind fun t223 => (some (!t223))) else (some false))) else (some false)) else (some false))) else (some false)) else (some false))) else (some false)) else (some false))) else (some false)) = some r := H
 have A7 := Aside0.mk A70
 clear A70
 by_cases c8 : t186 = 0
 ·
  rw [if_pos c8] at H
  have c8b0 : (t186 == 0) = true := beq_iff_eq.mpr c8
  have c8b1 : (t186 != 0) = false := bne_eq_false_iff_eq.mpr c8
  clear c8
  obtain ⟨y210, hy210⟩ : ∃ y_ : List Int, y_ = (([1, 1, 3, 4] : List Int)) := ⟨_, rfl⟩
  replace H : ((kingpinlaw08_ints.f k t183 y210).bind fun t213 => (if t213 = true then (if t197 = 0 then ((kingpinlaw08_ints.f k t194 (([2, 3, 2, 3] : List Int))).bind fun t217 => (if t217 = true then (if t205 = 0 then ((kingpinlaw08_ints.f k t202 (([0, 1, 3] : List Int))).bind fun t221 => (if t221 = true then (if t207 = 0 then ((league_ProveSchedule.f 4 t206 3).bind fun t222 => (if t222 = true then ((league_ProveSchedule.f 4 t206 2).bind fun t223 => (some (!t223))) else (some false))) else (some false)) else (some false))) else (some false)) else (some false))) else (some false)) else (some false))) = some r := by first | (rw [hy210]; with_reducible exact H) | (have H2_ := (Option.bind_some _ _).symm.trans H; rw [hy210]; with_reducible exact H2_) | (have H2_ := (Option.bind_some _ _).symm.trans H; with_reducible exact H2_) | with_reducible exact H | (rw [hy210]; exact H) | exact H
  have Ny210 := Aside0.mk hy210
  clear hy210
  replace H := Option.bind_eq_some_iff.mp H
  obtain ⟨t213, A90, H⟩ := H
  replace H : (if t213 = true then (if t197 = 0 then ((kingpinlaw08_ints.f k t194 (([2, 3, 2, 3] : List Int))).bind fun t217 => (if t217 = true then (if t205 = 0 then ((kingpinlaw08_ints.f k t202 (([0, 1, 3] : List Int))).bind fun t221 => (if t221 = true then (if t207 = 0 then ((league_ProveSchedule.f 4 t206 3).bind fun t222 => (if t222 = true then ((league_ProveSchedule.f 4 t206 2).bind fun t223 => (some (!t223))) else (some false))) else (some false)) else (some false))) else (some false)) else (some false))) else (some false)) else (some false)) = some r := H
  have A9 := Aside0.mk A90
  clear A90
  by_cases c10 : t213 = true
  ·
   subst c10
   have H1 : (if t197 = 0 then ((kingpinlaw08_ints.f k t194 (([2, 3, 2, 3] : List Int))).bind fun t217 => (if t217 = true then (if t205 = 0 then ((kingpinlaw08_ints.f k t202 (([0, 1, 3] : List Int))).bind fun t221 => (if t221 = true then (if t207 = 0 then ((league_ProveSchedule.f 4 t206 3).bind fun t222 => (if t222 = true then ((league_ProveSchedule.f 4 t206 2).bind fun t223 => (some (!t223))) else (some false))) else (some false)) else (some false))) else (some false)) else (some false))) else (some false)) = some r := by rw [if_pos rfl] at H; exact H
   clear H
   have H := H1
   clear H1
   by_cases c11 : t197 = 0
   ·
    rw [if_pos c11] at H
    have c11b0 : (t197 == 0) = true := beq_iff_eq.mpr c11
    have c11b1 : (t197 != 0) = false := bne_eq_false_iff_eq.mpr c11
    clear c11
    obtain ⟨y214, hy214⟩ : ∃ y_ : List Int, y_ = (([2, 3, 2, 3] : List Int)) := ⟨_, rfl⟩
    replace H : ((kingpinlaw08_ints.f k t194 y214).bind fun t217 => (if t217 = true then (if t205 = 0 then ((kingpinlaw08_ints.f k t202 (([0, 1, 3] : List Int))).bind fun t221 => (if t221 = true then (if t207 = 0 then ((league_ProveSchedule.f 4 t206 3).bind fun t222 => (if t222 = true then ((league_ProveSchedule.f 4 t206 2).bind fun t223 => (some (!t223))) else (some false))) else (some false)) else (some false))) else (some false)) else (some false))) = some r := by first | (rw [hy214]; with_reducible exact H) | (have H2_ := (Option.bind_some _ _).symm.trans H; rw [hy214]; with_reducible exact H2_) | (have H2_ := (Option.bind_some _ _).symm.trans H; with_reducible exact H2_) | with_reducible exact H | (rw [hy214]; exact H) | exact H
    have Ny214 := Aside0.mk hy214
    clear hy214
    replace H := Option.bind_eq_some_iff.mp H
    obtain ⟨t217, A120, H⟩ := H
    replace H : (if t217 = true then (if t205 = 0 then ((kingpinlaw08_ints.f k t202 (([0, 1, 3] : List Int))).bind fun t221 => (if t221 = true then (if t207 = 0 then ((league_ProveSchedule.f 4 t206 3).bind fun t222 => (if t222 = true then ((league_ProveSchedule.f 4 t206 2).bind fun t223 => (some (!t223))) else (some false))) else (some false)) else (some false))) else (some false)) else (some false)) = some r := H
    have A12 := Aside0.mk A120
    clear A120
    by_cases c13 : t217 = true
    ·
     subst c13
     have H1 : (if t205 = 0 then ((kingpinlaw08_ints.f k t202 (([0, 1, 3] : List Int))).bind fun t221 => (if t221 = true then (if t207 = 0 then ((league_ProveSchedule.f 4 t206 3).bind fun t222 => (if t222 = true then ((league_ProveSchedule.f 4 t206 2).bind fun t223 => (some (!t223))) else (some false))) else (some false)) else (some false))) else (some false)) = some r := by rw [if_pos rfl] at H; exact H
     clear H
     have H := H1
     clear H1
     by_cases c14 : t205 = 0
     ·
      rw [if_pos c14] at H
      have c14b0 : (t205 == 0) = true := beq_iff_eq.mpr c14
      have c14b1 : (t205 != 0) = false := bne_eq_false_iff_eq.mpr c14
      clear c14
      obtain ⟨y218, hy218⟩ : ∃ y_ : List Int, y_ = (([0, 1, 3] : List Int)) := ⟨_, rfl⟩
      replace H : ((kingpinlaw08_ints.f k t202 y218).bind fun t221 => (if t221 = true then (if t207 = 0 then ((league_ProveSchedule.f 4 t206 3).bind fun t222 => (if t222 = true then ((league_ProveSchedule.f 4 t206 2).bind fun t223 => (some (!t223))) else (some false))) else (some false)) else (some false))) = some r := by first | (rw [hy218]; with_reducible exact H) | (have H2_ := (Option.bind_some _ _).symm.trans H; rw [hy218]; with_reducible exact H2_) | (have H2_ := (Option.bind_some _ _).symm.trans H; with_reducible exact H2_) | with_reducible exact H | (rw [hy218]; exact H) | exact H
      have Ny218 := Aside0.mk hy218
      clear hy218
      replace H := Option.bind_eq_some_iff.mp H
      obtain ⟨t221, A150, H⟩ := H
      replace H : (if t221 = true then (if t207 = 0 then ((league_ProveSchedule.f 4 t206 3).bind fun t222 => (if t222 = true then ((league_ProveSchedule.f 4 t206 2).bind fun t223 => (some (!t223))) else (some false))) else (some false)) else (some false)) = some r := H
      have A15 := Aside0.mk A150
      clear A150
      by_cases c16 : t221 = true
      ·
       subst c16
       have H1 : (if t207 = 0 then ((league_ProveSchedule.f 4 t206 3).bind fun t222 => (if t222 = true then ((league_ProveSchedule.f 4 t206 2).bind fun t223 => (some (!t223))) else (some false))) else (some false)) = some r := by rw [if_pos rfl] at H; exact H
       clear H
       have H := H1
       clear H1
       by_cases c17 : t207 = 0
       ·
        rw [if_pos c17] at H
        have c17b0 : (t207 == 0) = true := beq_iff_eq.mpr c17
        have c17b1 : (t207 != 0) = false := bne_eq_false_iff_eq.mpr c17
        clear c17
        replace H := Option.bind_eq_some_iff.mp H
        obtain ⟨t222, A180, H⟩ := H
        replace H : (if t222 = true then ((league_ProveSchedule.f 4 t206 2).bind fun t223 => (some (!t223))) else (some false)) = some r := H
        have A18 := Aside0.mk A180
        clear A180
        by_cases c19 : t222 = true
        ·
         subst c19
         have H1 : ((league_ProveSchedule.f 4 t206 2).bind fun t223 => (some (!t223))) = some r := by rw [if_pos rfl] at H; exact H
         clear H
         have H := H1
         clear H1
         replace H := Option.bind_eq_some_iff.mp H
         obtain ⟨t223, A200, H⟩ := H
         replace H : (some (!t223)) = some r := H
         have A20 := Aside0.mk A200
         clear A200
         obtain rfl := Option.some.inj H
         go_enter Try.func16, Try.ntmps16
         go_wp2_with (first | ((with_reducible refine gate_callee (f := 49) rfl ?_); refine goesL_ (some 10) rfl rfl Try.func49 (by kernel_rfl) rfl #[] rfl (by (try simp only [List.map_toArray, List.map_cons, List.map_nil]); first | done | rfl | (simp only [List.length_drop, List.length_take]; rfl)) ?_; (with_reducible refine (kingpinlaw08_played.calls  t176 t177 _ A1.out).mono ?_); rintro e w21 ⟨v178, rfl, ho0, hb⟩; refine ⟨_, rfl, ?_⟩; have n0_ := Aside0.mk (Kd.R_lower ho0 (below_size (by repeat (first | (with_reducible first | exact HB.out | apply below_alloc | apply pw_below_drewN | apply below_drew1) | exact HB.out)))); have n1_ := Aside0.mk (below_step (by repeat (first | (with_reducible first | exact HB.out | apply below_alloc | apply pw_below_drewN | apply below_drew1) | exact HB.out)) hb); clear HB; have HO179 := n0_; have HB := n1_; clear n0_ n1_; (try clear hb); (try clear hb2); (try clear hk); (try clear hi); (try clear ho0)) | ((with_reducible refine gate_dst (N := 11) rfl ?_); (try (refine gate_guard (by rfl) ?_; dsimp only)); refine Kd.R_lit (Kd.int .u8) _ 5 ?hg (N := 11) ?hd (xs := ([1, 3] : List Int)) (inner := [.int .u8 1, .int .u8 3]) (ok := fun _ => True) (okp := fun _ => True) ?hr ?hp (fun _ hk => hk) trivial (Below.refl _ _) (Nat.le_refl _) (by simp) ?_; (case hd => rfl); (case hg => rfl); (case hr => first | (go_simp; done) | (go_simp; rfl)); (case hp => exact (Reps.one (show Kd.M (Kd.int .u8) _ _ _ 1 [.int .u8 1] from rfl) (Reps.one (show Kd.M (Kd.int .u8) _ _ _ 3 [.int .u8 3] from rfl) (Reps.none _ _)))); intro v181 w22 ho23 hb hg_ hnew_; clear hg_ hnew_; (first | rw [← Ny180.out] at ho23 | (simp only [Int.reduceToNat] at ho23; rw [← Ny180.out] at ho23)); have n0_ := Aside0.mk (Kd.R_below (by (with_reducible repeat (first | apply Kd.R_alloc | apply Kd.R_drewN | apply Kd.R_drew)); exact HO179.out) hb); have n1_ := Aside0.mk (Kd.R_lower ho23 (below_size (by repeat (first | (with_reducible first | exact HB.out | apply below_alloc | apply pw_below_drewN | apply below_drew1) | exact HB.out)))); have n2_ := Aside0.mk (below_step (by repeat (first | (with_reducible first | exact HB.out | apply below_alloc | apply pw_below_drewN | apply below_drew1) | exact HB.out)) hb); clear HO179; clear HB; have HO179 := n0_; have HO182 := n1_; have HB := n2_; clear n0_ n1_ n2_; clear hb ho23; obtain ⟨Ao24, co24, eo24⟩ := Kd.R_slice HO179.out; subst eo24; obtain ⟨Ao25, co25, eo25⟩ := Kd.R_slice HO182.out; subst eo25) | ((with_reducible refine gate_callee (f := 19) rfl ?_); refine goesL_ (some 12) rfl rfl Try.func19 (by kernel_rfl) rfl #[.agg #[.int .i64 t176, .slice Ao24 t177.length co24], .slice Ao25 y180.length co25] rfl (by (try simp only [List.map_toArray, List.map_cons, List.map_nil]); first | done | rfl | (simp only [List.length_drop, List.length_take]; rfl)) ?_; (with_reducible refine (league_Rank.calls k t176 _ _ t177 _ _ y180 t183 t186 _ ?side1 ?side2 ?side3 ?side4 A2.out).mono ?_); (case side1 => repeat (first | exact (Kd.R_reads' HO179.out).2.2 | (with_reducible refine Kd.C_alloc ?_ _) | (with_reducible refine Kd.C_drewN ?_ _) | (with_reducible refine Kd.C_drew ?_))); (case side2 => exact (Kd.R_reads' HO179.out).2.1); (case side3 => repeat (first | exact (Kd.R_reads' HO182.out).2.2 | (with_reducible refine Kd.C_alloc ?_ _) | (with_reducible refine Kd.C_drewN ?_ _) | (with_reducible refine Kd.C_drew ?_))); (case side4 => exact (Kd.R_reads' HO182.out).2.1); rintro e w26 ⟨v184, rfl, ho0, hb⟩; refine ⟨_, rfl, ?_⟩; have n0_ := Aside0.mk (Kd.R_below (by (with_reducible repeat (first | apply Kd.R_alloc | apply Kd.R_drewN | apply Kd.R_drew)); exact HO179.out) hb); have n1_ := Aside0.mk (Kd.R_below (by (with_reducible repeat (first | apply Kd.R_alloc | apply Kd.R_drewN | apply Kd.R_drew)); exact HO182.out) hb); have n2_ := Aside0.mk (Kd.R_lower ho0 (below_size (by repeat (first | (with_reducible first | exact HB.out | apply below_alloc | apply pw_below_drewN | apply below_drew1) | exact HB.out)))); have n3_ := Aside0.mk (below_step (by repeat (first | (with_reducible first | exact HB.out | apply below_alloc | apply pw_below_drewN | apply below_drew1) | exact HB.out)) hb); clear HO179; clear HO182; clear HB; have HO179 := n0_; have HO182 := n1_; have HO185 := n2_; have HB := n3_; clear n0_ n1_ n2_ n3_; (try clear hb); (try clear hb2); (try clear hk); (try clear hi); (try clear ho0)) | ((with_reducible refine gate_callee (f := 49) rfl ?_); refine goesL_ (some 16) rfl rfl Try.func49 (by kernel_rfl) rfl #[] rfl (by (try simp only [List.map_toArray, List.map_cons, List.map_nil]); first | done | rfl | (simp only [List.length_drop, List.length_take]; rfl)) ?_; (with_reducible refine (kingpinlaw08_played.calls  t187 t188 _ A3.out).mono ?_); rintro e w27 ⟨v189, rfl, ho0, hb⟩; refine ⟨_, rfl, ?_⟩; have n0_ := Aside0.mk (Kd.R_elder' (by (with_reducible repeat (first | apply Kd.R_alloc | apply Kd.R_drewN | apply Kd.R_drew)); exact HO179.out) (Kd.R_base ho0) hb); have n1_ := Aside0.mk (Kd.R_below (by (with_reducible repeat (first | apply Kd.R_alloc | apply Kd.R_drewN | apply Kd.R_drew)); exact HO182.out) hb); have n2_ := Aside0.mk (Kd.R_below (by (with_reducible repeat (first | apply Kd.R_alloc | apply Kd.R_drewN | apply Kd.R_drew)); exact HO185.out) hb); have n3_ := Aside0.mk (Kd.R_lower (Kd.R_new' ho0 (Kd.R_lt (by (with_reducible repeat (first | apply Kd.R_alloc | apply Kd.R_drewN | apply Kd.R_drew)); exact HO179.out))) (below_size (by repeat (first | (with_reducible first | exact HB.out | apply below_alloc | apply pw_below_drewN | apply below_drew1) | exact HB.out)))); have n4_ := Aside0.mk (below_step (by repeat (first | (with_reducible first | exact HB.out | apply below_alloc | apply pw_below_drewN | apply below_drew1) | exact HB.out)) hb); clear HO179; clear HO182; clear HO185; clear HB; have HO179 := n0_; have HO182 := n1_; have HO185 := n2_; have HO190 := n3_; have HB := n4_; clear n0_ n1_ n2_ n3_ n4_; (try clear hb); (try clear hb2); (try clear hk); (try clear hi); (try clear ho0)) | ((with_reducible refine gate_dst (N := 17) rfl ?_); (try (refine gate_guard (by rfl) ?_; dsimp only)); refine Kd.R_lit (Kd.int .u8) _ 5 ?hg (N := 17) ?hd (xs := ([3, 2] : List Int)) (inner := [.int .u8 3, .int .u8 2]) (ok := fun _ => True) (okp := fun _ => True) ?hr ?hp (fun _ hk => hk) trivial (Below.refl _ _) (Nat.le_refl _) (by simp) ?_; (case hd => rfl); (case hg => rfl); (case hr => first | (go_simp; done) | (go_simp; rfl)); (case hp => exact (Reps.one (show Kd.M (Kd.int .u8) _ _ _ 3 [.int .u8 3] from rfl) (Reps.one (show Kd.M (Kd.int .u8) _ _ _ 2 [.int .u8 2] from rfl) (Reps.none _ _)))); intro v192 w28 ho29 hb hg_ hnew_; clear hg_ hnew_; (first | rw [← Ny191.out] at ho29 | (simp only [Int.reduceToNat] at ho29; rw [← Ny191.out] at ho29)); have n0_ := Aside0.mk (Kd.R_below (by (with_reducible repeat (first | apply Kd.R_alloc | apply Kd.R_drewN | apply Kd.R_drew)); exact HO179.out) hb); have n1_ := Aside0.mk (Kd.R_elder' (by (with_reducible repeat (first | apply Kd.R_alloc | apply Kd.R_drewN | apply Kd.R_drew)); exact HO182.out) (Kd.R_base ho29) hb); have n2_ := Aside0.mk (Kd.R_below (by (with_reducible repeat (first | apply Kd.R_alloc | apply Kd.R_drewN | apply Kd.R_drew)); exact HO185.out) hb); have n3_ := Aside0.mk (Kd.R_below (by (with_reducible repeat (first | apply Kd.R_alloc | apply Kd.R_drewN | apply Kd.R_drew)); exact HO190.out) hb); have n4_ := Aside0.mk (Kd.R_lower (Kd.R_new' ho29 (Kd.R_lt (by (with_reducible repeat (first | apply Kd.R_alloc | apply Kd.R_drewN | apply Kd.R_drew)); exact HO182.out))) (below_size (by repeat (first | (with_reducible first | exact HB.out | apply below_alloc | apply pw_below_drewN | apply below_drew1) | exact HB.out)))); have n5_ := Aside0.mk (below_step (by repeat (first | (with_reducible first | exact HB.out | apply below_alloc | apply pw_below_drewN | apply below_drew1) | exact HB.out)) hb); clear HO179; clear HO182; clear HO185; clear HO190; clear HB; have HO179 := n0_; have HO182 := n1_; have HO185 := n2_; have HO190 := n3_; have HO193 := n4_; have HB := n5_; clear n0_ n1_ n2_ n3_ n4_ n5_; clear hb ho29; obtain ⟨Ao30, co30, eo30⟩ := Kd.R_slice HO190.out; subst eo30; obtain ⟨Ao31, co31, eo31⟩ := Kd.R_slice HO193.out; subst eo31) | ((with_reducible refine gate_callee (f := 25) rfl ?_); refine goesL_ (some 18) rfl rfl Try.func25 (by kernel_rfl) rfl #[.agg #[.int .i64 t187, .slice Ao30 t188.length co30], .slice Ao31 y191.length co31] rfl (by (try simp only [List.map_toArray, List.map_cons, List.map_nil]); first | done | rfl | (simp only [List.length_drop, List.length_take]; rfl)) ?_; (with_reducible refine (league_After.calls t187 _ _ t188 _ _ y191 t194 t197 _ ?side1 ?side2 ?side3 ?side4 A4.out).mono ?_); (case side1 => repeat (first | exact (Kd.R_reads' HO190.out).2.2 | (with_reducible refine Kd.C_alloc ?_ _) | (with_reducible refine Kd.C_drewN ?_ _) | (with_reducible refine Kd.C_drew ?_))); (case side2 => exact (Kd.R_reads' HO190.out).2.1); (case side3 => repeat (first | exact (Kd.R_reads' HO193.out).2.2 | (with_reducible refine Kd.C_alloc ?_ _) | (with_reducible refine Kd.C_drewN ?_ _) | (with_reducible refine Kd.C_drew ?_))); (case side4 => exact (Kd.R_reads' HO193.out).2.1); rintro e w32 ⟨v195, rfl, ho0, hb⟩; refine ⟨_, rfl, ?_⟩; have n0_ := Aside0.mk (Kd.R_below (by (with_reducible repeat (first | apply Kd.R_alloc | apply Kd.R_drewN | apply Kd.R_drew)); exact HO179.out) hb); have n1_ := Aside0.mk (Kd.R_below (by (with_reducible repeat (first | apply Kd.R_alloc | apply Kd.R_drewN | apply Kd.R_drew)); exact HO182.out) hb); have n2_ := Aside0.mk (Kd.R_elder' (by (with_reducible repeat (first | apply Kd.R_alloc | apply Kd.R_drewN | apply Kd.R_drew)); exact HO185.out) (Kd.R_base ho0) hb); have n3_ := Aside0.mk (Kd.R_below (by (with_reducible repeat (first | apply Kd.R_alloc | apply Kd.R_drewN | apply Kd.R_drew)); exact HO190.out) hb); have n4_ := Aside0.mk (Kd.R_below (by (with_reducible repeat (first | apply Kd.R_alloc | apply Kd.R_drewN | apply Kd.R_drew)); exact HO193.out) hb); have n5_ := Aside0.mk (Kd.R_lower (Kd.R_new' ho0 (Kd.R_lt (by (with_reducible repeat (first | apply Kd.R_alloc | apply Kd.R_drewN | apply Kd.R_drew)); exact HO185.out))) (below_size (by repeat (first | (with_reducible first | exact HB.out | apply below_alloc | apply pw_below_drewN | apply below_drew1) | exact HB.out)))); have n6_ := Aside0.mk (below_step (by repeat (first | (with_reducible first | exact HB.out | apply below_alloc | apply pw_below_drewN | apply below_drew1) | exact HB.out)) hb); clear HO179; clear HO182; clear HO185; clear HO190; clear HO193; clear HB; have HO179 := n0_; have HO182 := n1_; have HO185 := n2_; have HO190 := n3_; have HO193 := n4_; have HO196 := n5_; have HB := n6_; clear n0_ n1_ n2_ n3_ n4_ n5_ n6_; (try clear hb); (try clear hb2); (try clear hk); (try clear hi); (try clear ho0)) | ((with_reducible refine gate_callee (f := 49) rfl ?_); refine goesL_ (some 22) rfl rfl Try.func49 (by kernel_rfl) rfl #[] rfl (by (try simp only [List.map_toArray, List.map_cons, List.map_nil]); first | done | rfl | (simp only [List.length_drop, List.length_take]; rfl)) ?_; (with_reducible refine (kingpinlaw08_played.calls  t198 t199 _ A5.out).mono ?_); rintro e w33 ⟨v200, rfl, ho0, hb⟩; refine ⟨_, rfl, ?_⟩; have n0_ := Aside0.mk (Kd.R_elder' (by (with_reducible repeat (first | apply Kd.R_alloc | apply Kd.R_drewN | apply Kd.R_drew)); exact HO179.out) (Kd.R_base ho0) hb); have n1_ := Aside0.mk (Kd.R_below (by (with_reducible repeat (first | apply Kd.R_alloc | apply Kd.R_drewN | apply Kd.R_drew)); exact HO182.out) hb); have n2_ := Aside0.mk (Kd.R_below (by (with_reducible repeat (first | apply Kd.R_alloc | apply Kd.R_drewN | apply Kd.R_drew)); exact HO185.out) hb); have n3_ := Aside0.mk (Kd.R_elder' (by (with_reducible repeat (first | apply Kd.R_alloc | apply Kd.R_drewN | apply Kd.R_drew)); exact HO190.out) (Kd.R_base ho0) hb); have n4_ := Aside0.mk (Kd.R_below (by (with_reducible repeat (first | apply Kd.R_alloc | apply Kd.R_drewN | apply Kd.R_drew)); exact HO193.out) hb); have n5_ := Aside0.mk (Kd.R_below (by (with_reducible repeat (first | apply Kd.R_alloc | apply Kd.R_drewN | apply Kd.R_drew)); exact HO196.out) hb); have n6_ := Aside0.mk (Kd.R_lower (Kd.R_new' (Kd.R_new' ho0 (Kd.R_lt (by (with_reducible repeat (first | apply Kd.R_alloc | apply Kd.R_drewN | apply Kd.R_drew)); exact HO179.out))) (Kd.R_lt (by (with_reducible repeat (first | apply Kd.R_alloc | apply Kd.R_drewN | apply Kd.R_drew)); exact HO190.out))) (below_size (by repeat (first | (with_reducible first | exact HB.out | apply below_alloc | apply pw_below_drewN | apply below_drew1) | exact HB.out)))); have n7_ := Aside0.mk (below_step (by repeat (first | (with_reducible first | exact HB.out | apply below_alloc | apply pw_below_drewN | apply below_drew1) | exact HB.out)) hb); clear HO179; clear HO182; clear HO185; clear HO190; clear HO193; clear HO196; clear HB; have HO179 := n0_; have HO182 := n1_; have HO185 := n2_; have HO190 := n3_; have HO193 := n4_; have HO196 := n5_; have HO201 := n6_; have HB := n7_; clear n0_ n1_ n2_ n3_ n4_ n5_ n6_ n7_; (try clear hb); (try clear hb2); (try clear hk); (try clear hi); (try clear ho0); obtain ⟨Ao34, co34, eo34⟩ := Kd.R_slice HO201.out; subst eo34) | ((with_reducible refine gate_callee (f := 37) rfl ?_); refine goesL_ (some 23) rfl rfl Try.func37 (by kernel_rfl) rfl #[.agg #[.int .i64 t198, .slice Ao34 t199.length co34], .int .i64 2] rfl (by (try simp only [List.map_toArray, List.map_cons, List.map_nil]); first | done | rfl | (simp only [List.length_drop, List.length_take]; rfl)) ?_; (with_reducible refine (league_Reason.calls t198 _ _ t199 2 t202 t205 _ ?side1 ?side2 A6.out).mono ?_); (case side1 => repeat (first | exact (Kd.R_reads' HO201.out).2.2 | (with_reducible refine Kd.C_alloc ?_ _) | (with_reducible refine Kd.C_drewN ?_ _) | (with_reducible refine Kd.C_drew ?_))); (case side2 => exact (Kd.R_reads' HO201.out).2.1); rintro e w35 ⟨v203, rfl, ho0, hb⟩; refine ⟨_, rfl, ?_⟩; have n0_ := Aside0.mk (Kd.R_below (by (with_reducible repeat (first | apply Kd.R_alloc | apply Kd.R_drewN | apply Kd.R_drew)); exact HO179.out) hb); have n1_ := Aside0.mk (Kd.R_below (by (with_reducible repeat (first | apply Kd.R_alloc | apply Kd.R_drewN | apply Kd.R_drew)); exact HO182.out) hb); have n2_ := Aside0.mk (Kd.R_elder' (by (with_reducible repeat (first | apply Kd.R_alloc | apply Kd.R_drewN | apply Kd.R_drew)); exact HO185.out) (Kd.R_base ho0) hb); have n3_ := Aside0.mk (Kd.R_below (by (with_reducible repeat (first | apply Kd.R_alloc | apply Kd.R_drewN | apply Kd.R_drew)); exact HO190.out) hb); have n4_ := Aside0.mk (Kd.R_below (by (with_reducible repeat (first | apply Kd.R_alloc | apply Kd.R_drewN | apply Kd.R_drew)); exact HO193.out) hb); have n5_ := Aside0.mk (Kd.R_elder' (by (with_reducible repeat (first | apply Kd.R_alloc | apply Kd.R_drewN | apply Kd.R_drew)); exact HO196.out) (Kd.R_base ho0) hb); have n6_ := Aside0.mk (Kd.R_below (by (with_reducible repeat (first | apply Kd.R_alloc | apply Kd.R_drewN | apply Kd.R_drew)); exact HO201.out) hb); have n7_ := Aside0.mk (Kd.R_lower (Kd.R_new' (Kd.R_new' ho0 (Kd.R_lt (by (with_reducible repeat (first | apply Kd.R_alloc | apply Kd.R_drewN | apply Kd.R_drew)); exact HO185.out))) (Kd.R_lt (by (with_reducible repeat (first | apply Kd.R_alloc | apply Kd.R_drewN | apply Kd.R_drew)); exact HO196.out))) (below_size (by repeat (first | (with_reducible first | exact HB.out | apply below_alloc | apply pw_below_drewN | apply below_drew1) | exact HB.out)))); have n8_ := Aside0.mk (below_step (by repeat (first | (with_reducible first | exact HB.out | apply below_alloc | apply pw_below_drewN | apply below_drew1) | exact HB.out)) hb); clear HO179; clear HO182; clear HO185; clear HO190; clear HO193; clear HO196; clear HO201; clear HB; have HO179 := n0_; have HO182 := n1_; have HO185 := n2_; have HO190 := n3_; have HO193 := n4_; have HO196 := n5_; have HO201 := n6_; have HO204 := n7_; have HB := n8_; clear n0_ n1_ n2_ n3_ n4_ n5_ n6_ n7_ n8_; (try clear hb); (try clear hb2); (try clear hk); (try clear hi); (try clear ho0)) | ((with_reducible refine gate_callee (f := 29) rfl ?_); refine goesL_ (some 27) rfl rfl Try.func29 (by kernel_rfl) rfl #[.int .i64 4] rfl (by (try simp only [List.map_toArray, List.map_cons, List.map_nil]); first | done | rfl | (simp only [List.length_drop, List.length_take]; rfl)) ?_; (with_reducible refine (league_Build.calls 4 t206 t207 _ A7.out).mono ?_); rintro e w36 ⟨v208, rfl, ho0, hb⟩; refine ⟨_, rfl, ?_⟩; have n0_ := Aside0.mk (Kd.R_below (by (with_reducible repeat (first | apply Kd.R_alloc | apply Kd.R_drewN | apply Kd.R_drew)); exact HO179.out) hb); have n1_ := Aside0.mk (Kd.R_below (by (with_reducible repeat (first | apply Kd.R_alloc | apply Kd.R_drewN | apply Kd.R_drew)); exact HO182.out) hb); have n2_ := Aside0.mk (Kd.R_below (by (with_reducible repeat (first | apply Kd.R_alloc | apply Kd.R_drewN | apply Kd.R_drew)); exact HO185.out) hb); have n3_ := Aside0.mk (Kd.R_below (by (with_reducible repeat (first | apply Kd.R_alloc | apply Kd.R_drewN | apply Kd.R_drew)); exact HO190.out) hb); have n4_ := Aside0.mk (Kd.R_below (by (with_reducible repeat (first | apply Kd.R_alloc | apply Kd.R_drewN | apply Kd.R_drew)); exact HO193.out) hb); have n5_ := Aside0.mk (Kd.R_below (by (with_reducible repeat (first | apply Kd.R_alloc | apply Kd.R_drewN | apply Kd.R_drew)); exact HO196.out) hb); have n6_ := Aside0.mk (Kd.R_below (by (with_reducible repeat (first | apply Kd.R_alloc | apply Kd.R_drewN | apply Kd.R_drew)); exact HO201.out) hb); have n7_ := Aside0.mk (Kd.R_below (by (with_reducible repeat (first | apply Kd.R_alloc | apply Kd.R_drewN | apply Kd.R_drew)); exact HO204.out) hb); have n8_ := Aside0.mk (Kd.S_lower ho0 (below_size (by repeat (first | (with_reducible first | exact HB.out | apply below_alloc | apply pw_below_drewN | apply below_drew1) | exact HB.out)))); have n9_ := Aside0.mk (below_step (by repeat (first | (with_reducible first | exact HB.out | apply below_alloc | apply pw_below_drewN | apply below_drew1) | exact HB.out)) hb); clear HO179; clear HO182; clear HO185; clear HO190; clear HO193; clear HO196; clear HO201; clear HO204; clear HB; have HO179 := n0_; have HO182 := n1_; have HO185 := n2_; have HO190 := n3_; have HO193 := n4_; have HO196 := n5_; have HO201 := n6_; have HO204 := n7_; have HO209 := n8_; have HB := n9_; clear n0_ n1_ n2_ n3_ n4_ n5_ n6_ n7_ n8_ n9_; (try clear hb); (try clear hb2); (try clear hk); (try clear hi); (try clear ho0)) | ((with_reducible refine gate_dst (N := 34) rfl ?_); (try (refine gate_guard (by rfl) ?_; dsimp only)); refine Kd.R_lit (Kd.int .i64) _ 3 ?hg (N := 34) ?hd (xs := ([1, 1, 3, 4] : List Int)) (inner := [.int .i64 1, .int .i64 1, .int .i64 3, .int .i64 4]) (ok := fun _ => True) (okp := fun _ => True) ?hr ?hp (fun _ hk => hk) trivial (Below.refl _ _) (Nat.le_refl _) (by simp) ?_; (case hd => rfl); (case hg => rfl); (case hr => first | (go_simp; done) | (go_simp; rfl)); (case hp => exact (Reps.one (show Kd.M (Kd.int .i64) _ _ _ 1 [.int .i64 1] from rfl) (Reps.one (show Kd.M (Kd.int .i64) _ _ _ 1 [.int .i64 1] from rfl) (Reps.one (show Kd.M (Kd.int .i64) _ _ _ 3 [.int .i64 3] from rfl) (Reps.one (show Kd.M (Kd.int .i64) _ _ _ 4 [.int .i64 4] from rfl) (Reps.none _ _)))))); intro v211 w37 ho38 hb hg_ hnew_; clear hg_ hnew_; (first | rw [← Ny210.out] at ho38 | (simp only [Int.reduceToNat] at ho38; rw [← Ny210.out] at ho38)); have n0_ := Aside0.mk (Kd.R_below (by (with_reducible repeat (first | apply Kd.R_alloc | apply Kd.R_drewN | apply Kd.R_drew)); exact HO179.out) hb); have n1_ := Aside0.mk (Kd.R_below (by (with_reducible repeat (first | apply Kd.R_alloc | apply Kd.R_drewN | apply Kd.R_drew)); exact HO182.out) hb); have n2_ := Aside0.mk (Kd.R_elder' (by (with_reducible repeat (first | apply Kd.R_alloc | apply Kd.R_drewN | apply Kd.R_drew)); exact HO185.out) (Kd.R_base ho38) hb); have n3_ := Aside0.mk (Kd.R_below (by (with_reducible repeat (first | apply Kd.R_alloc | apply Kd.R_drewN | apply Kd.R_drew)); exact HO190.out) hb); have n4_ := Aside0.mk (Kd.R_below (by (with_reducible repeat (first | apply Kd.R_alloc | apply Kd.R_drewN | apply Kd.R_drew)); exact HO193.out) hb); have n5_ := Aside0.mk (Kd.R_elder' (by (with_reducible repeat (first | apply Kd.R_alloc | apply Kd.R_drewN | apply Kd.R_drew)); exact HO196.out) (Kd.R_base ho38) hb); have n6_ := Aside0.mk (Kd.R_below (by (with_reducible repeat (first | apply Kd.R_alloc | apply Kd.R_drewN | apply Kd.R_drew)); exact HO201.out) hb); have n7_ := Aside0.mk (Kd.R_elder' (by (with_reducible repeat (first | apply Kd.R_alloc | apply Kd.R_drewN | apply Kd.R_drew)); exact HO204.out) (Kd.R_base ho38) hb); have n8_ := Aside0.mk (Kd.S_below (by (with_reducible repeat (first | apply Kd.S_alloc | apply Kd.S_drewN | apply Kd.S_drew)); exact HO209.out) hb); have n9_ := Aside0.mk (Kd.R_lower (Kd.R_new' (Kd.R_new' (Kd.R_new' ho38 (Kd.R_lt (by (with_reducible repeat (first | apply Kd.R_alloc | apply Kd.R_drewN | apply Kd.R_drew)); exact HO185.out))) (Kd.R_lt (by (with_reducible repeat (first | apply Kd.R_alloc | apply Kd.R_drewN | apply Kd.R_drew)); exact HO196.out))) (Kd.R_lt (by (with_reducible repeat (first | apply Kd.R_alloc | apply Kd.R_drewN | apply Kd.R_drew)); exact HO204.out))) (below_size (by repeat (first | (with_reducible first | exact HB.out | apply below_alloc | apply pw_below_drewN | apply below_drew1) | exact HB.out)))); have n10_ := Aside0.mk (below_step (by repeat (first | (with_reducible first | exact HB.out | apply below_alloc | apply pw_below_drewN | apply below_drew1) | exact HB.out)) hb); clear HO179; clear HO182; clear HO185; clear HO190; clear HO193; clear HO196; clear HO201; clear HO204; clear HO209; clear HB; have HO179 := n0_; have HO182 := n1_; have HO185 := n2_; have HO190 := n3_; have HO193 := n4_; have HO196 := n5_; have HO201 := n6_; have HO204 := n7_; have HO209 := n8_; have HO212 := n9_; have HB := n10_; clear n0_ n1_ n2_ n3_ n4_ n5_ n6_ n7_ n8_ n9_ n10_; clear hb ho38; obtain ⟨Ao39, co39, eo39⟩ := Kd.R_slice HO185.out; subst eo39; obtain ⟨Ao40, co40, eo40⟩ := Kd.R_slice HO212.out; subst eo40) | (go_at_call 23; (with_reducible refine (kingpinlaw08_ints.calls k _ _ t183 _ _ y210 true _ ?side1 ?side2 ?side3 ?side4 A9.out).mono ?_); (case side1 => repeat (first | exact (Kd.R_reads' HO185.out).2.2 | (with_reducible refine Kd.C_alloc ?_ _) | (with_reducible refine Kd.C_drewN ?_ _) | (with_reducible refine Kd.C_drew ?_))); (case side2 => exact (Kd.R_reads' HO185.out).2.1); (case side3 => repeat (first | exact (Kd.R_reads' HO212.out).2.2 | (with_reducible refine Kd.C_alloc ?_ _) | (with_reducible refine Kd.C_drewN ?_ _) | (with_reducible refine Kd.C_drew ?_))); (case side4 => exact (Kd.R_reads' HO212.out).2.1); rintro e w' ⟨rfl, ⟨nd, rfl⟩⟩) | ((with_reducible refine gate_dst (N := 43) rfl ?_); (try (refine gate_guard (by rfl) ?_; dsimp only)); refine Kd.R_lit (Kd.int .i64) _ 3 ?hg (N := 43) ?hd (xs := ([2, 3, 2, 3] : List Int)) (inner := [.int .i64 2, .int .i64 3, .int .i64 2, .int .i64 3]) (ok := fun _ => True) (okp := fun _ => True) ?hr ?hp (fun _ hk => hk) trivial (Below.refl _ _) (Nat.le_refl _) (by simp) ?_; (case hd => rfl); (case hg => rfl); (case hr => first | (go_simp; done) | (go_simp; rfl)); (case hp => exact (Reps.one (show Kd.M (Kd.int .i64) _ _ _ 2 [.int .i64 2] from rfl) (Reps.one (show Kd.M (Kd.int .i64) _ _ _ 3 [.int .i64 3] from rfl) (Reps.one (show Kd.M (Kd.int .i64) _ _ _ 2 [.int .i64 2] from rfl) (Reps.one (show Kd.M (Kd.int .i64) _ _ _ 3 [.int .i64 3] from rfl) (Reps.none _ _)))))); intro v215 w41 ho42 hb hg_ hnew_; clear hg_ hnew_; (first | rw [← Ny214.out] at ho42 | (simp only [Int.reduceToNat] at ho42; rw [← Ny214.out] at ho42)); have n0_ := Aside0.mk (Kd.R_below (by (with_reducible repeat (first | apply Kd.R_alloc | apply Kd.R_drewN | apply Kd.R_drew)); exact HO179.out) hb); have n1_ := Aside0.mk (Kd.R_below (by (with_reducible repeat (first | apply Kd.R_alloc | apply Kd.R_drewN | apply Kd.R_drew)); exact HO182.out) hb); have n2_ := Aside0.mk (Kd.R_elder' (by (with_reducible repeat (first | apply Kd.R_alloc | apply Kd.R_drewN | apply Kd.R_drew)); exact HO185.out) (Kd.R_base ho42) hb); have n3_ := Aside0.mk (Kd.R_below (by (with_reducible repeat (first | apply Kd.R_alloc | apply Kd.R_drewN | apply Kd.R_drew)); exact HO190.out) hb); have n4_ := Aside0.mk (Kd.R_below (by (with_reducible repeat (first | apply Kd.R_alloc | apply Kd.R_drewN | apply Kd.R_drew)); exact HO193.out) hb); have n5_ := Aside0.mk (Kd.R_elder' (by (with_reducible repeat (first | apply Kd.R_alloc | apply Kd.R_drewN | apply Kd.R_drew)); exact HO196.out) (Kd.R_base ho42) hb); have n6_ := Aside0.mk (Kd.R_below (by (with_reducible repeat (first | apply Kd.R_alloc | apply Kd.R_drewN | apply Kd.R_drew)); exact HO201.out) hb); have n7_ := Aside0.mk (Kd.R_elder' (by (with_reducible repeat (first | apply Kd.R_alloc | apply Kd.R_drewN | apply Kd.R_drew)); exact HO204.out) (Kd.R_base ho42) hb); have n8_ := Aside0.mk (Kd.S_below (by (with_reducible repeat (first | apply Kd.S_alloc | apply Kd.S_drewN | apply Kd.S_drew)); exact HO209.out) hb); have n9_ := Aside0.mk (Kd.R_elder' (by (with_reducible repeat (first | apply Kd.R_alloc | apply Kd.R_drewN | apply Kd.R_drew)); exact HO212.out) (Kd.R_base ho42) hb); have n10_ := Aside0.mk (Kd.R_lower (Kd.R_new' (Kd.R_new' (Kd.R_new' (Kd.R_new' ho42 (Kd.R_lt (by (with_reducible repeat (first | apply Kd.R_alloc | apply Kd.R_drewN | apply Kd.R_drew)); exact HO185.out))) (Kd.R_lt (by (with_reducible repeat (first | apply Kd.R_alloc | apply Kd.R_drewN | apply Kd.R_drew)); exact HO196.out))) (Kd.R_lt (by (with_reducible repeat (first | apply Kd.R_alloc | apply Kd.R_drewN | apply Kd.R_drew)); exact HO204.out))) (Kd.R_lt (by (with_reducible repeat (first | apply Kd.R_alloc | apply Kd.R_drewN | apply Kd.R_drew)); exact HO212.out))) (below_size (by repeat (first | (with_reducible first | exact HB.out | apply below_alloc | apply pw_below_drewN | apply below_drew1) | exact HB.out)))); have n11_ := Aside0.mk (below_step (by repeat (first | (with_reducible first | exact HB.out | apply below_alloc | apply pw_below_drewN | apply below_drew1) | exact HB.out)) hb); clear HO179; clear HO182; clear HO185; clear HO190; clear HO193; clear HO196; clear HO201; clear HO204; clear HO209; clear HO212; clear HB; have HO179 := n0_; have HO182 := n1_; have HO185 := n2_; have HO190 := n3_; have HO193 := n4_; have HO196 := n5_; have HO201 := n6_; have HO204 := n7_; have HO209 := n8_; have HO212 := n9_; have HO216 := n10_; have HB := n11_; clear n0_ n1_ n2_ n3_ n4_ n5_ n6_ n7_ n8_ n9_ n10_ n11_; clear hb ho42; obtain ⟨Ao43, co43, eo43⟩ := Kd.R_slice HO196.out; subst eo43; obtain ⟨Ao44, co44, eo44⟩ := Kd.R_slice HO216.out; subst eo44) | (go_at_call 23; (with_reducible refine (kingpinlaw08_ints.calls k _ _ t194 _ _ y214 true _ ?side1 ?side2 ?side3 ?side4 A12.out).mono ?_); (case side1 => repeat (first | exact (Kd.R_reads' HO196.out).2.2 | (with_reducible refine Kd.C_alloc ?_ _) | (with_reducible refine Kd.C_drewN ?_ _) | (with_reducible refine Kd.C_drew ?_))); (case side2 => exact (Kd.R_reads' HO196.out).2.1); (case side3 => repeat (first | exact (Kd.R_reads' HO216.out).2.2 | (with_reducible refine Kd.C_alloc ?_ _) | (with_reducible refine Kd.C_drewN ?_ _) | (with_reducible refine Kd.C_drew ?_))); (case side4 => exact (Kd.R_reads' HO216.out).2.1); rintro e w' ⟨rfl, ⟨nd, rfl⟩⟩) | ((with_reducible refine gate_dst (N := 52) rfl ?_); (try (refine gate_guard (by rfl) ?_; dsimp only)); refine Kd.R_lit (Kd.int .i64) _ 3 ?hg (N := 52) ?hd (xs := ([0, 1, 3] : List Int)) (inner := [.int .i64 0, .int .i64 1, .int .i64 3]) (ok := fun _ => True) (okp := fun _ => True) ?hr ?hp (fun _ hk => hk) trivial (Below.refl _ _) (Nat.le_refl _) (by simp) ?_; (case hd => rfl); (case hg => rfl); (case hr => first | (go_simp; done) | (go_simp; rfl)); (case hp => exact (Reps.one (show Kd.M (Kd.int .i64) _ _ _ 0 [.int .i64 0] from rfl) (Reps.one (show Kd.M (Kd.int .i64) _ _ _ 1 [.int .i64 1] from rfl) (Reps.one (show Kd.M (Kd.int .i64) _ _ _ 3 [.int .i64 3] from rfl) (Reps.none _ _))))); intro v219 w45 ho46 hb hg_ hnew_; clear hg_ hnew_; (first | rw [← Ny218.out] at ho46 | (simp only [Int.reduceToNat] at ho46; rw [← Ny218.out] at ho46)); have n0_ := Aside0.mk (Kd.R_below (by (with_reducible repeat (first | apply Kd.R_alloc | apply Kd.R_drewN | apply Kd.R_drew)); exact HO179.out) hb); have n1_ := Aside0.mk (Kd.R_below (by (with_reducible repeat (first | apply Kd.R_alloc | apply Kd.R_drewN | apply Kd.R_drew)); exact HO182.out) hb); have n2_ := Aside0.mk (Kd.R_elder' (by (with_reducible repeat (first | apply Kd.R_alloc | apply Kd.R_drewN | apply Kd.R_drew)); exact HO185.out) (Kd.R_base ho46) hb); have n3_ := Aside0.mk (Kd.R_below (by (with_reducible repeat (first | apply Kd.R_alloc | apply Kd.R_drewN | apply Kd.R_drew)); exact HO190.out) hb); have n4_ := Aside0.mk (Kd.R_below (by (with_reducible repeat (first | apply Kd.R_alloc | apply Kd.R_drewN | apply Kd.R_drew)); exact HO193.out) hb); have n5_ := Aside0.mk (Kd.R_elder' (by (with_reducible repeat (first | apply Kd.R_alloc | apply Kd.R_drewN | apply Kd.R_drew)); exact HO196.out) (Kd.R_base ho46) hb); have n6_ := Aside0.mk (Kd.R_below (by (with_reducible repeat (first | apply Kd.R_alloc | apply Kd.R_drewN | apply Kd.R_drew)); exact HO201.out) hb); have n7_ := Aside0.mk (Kd.R_elder' (by (with_reducible repeat (first | apply Kd.R_alloc | apply Kd.R_drewN | apply Kd.R_drew)); exact HO204.out) (Kd.R_base ho46) hb); have n8_ := Aside0.mk (Kd.S_below (by (with_reducible repeat (first | apply Kd.S_alloc | apply Kd.S_drewN | apply Kd.S_drew)); exact HO209.out) hb); have n9_ := Aside0.mk (Kd.R_elder' (by (with_reducible repeat (first | apply Kd.R_alloc | apply Kd.R_drewN | apply Kd.R_drew)); exact HO212.out) (Kd.R_base ho46) hb); have n10_ := Aside0.mk (Kd.R_elder' (by (with_reducible repeat (first | apply Kd.R_alloc | apply Kd.R_drewN | apply Kd.R_drew)); exact HO216.out) (Kd.R_base ho46) hb); have n11_ := Aside0.mk (Kd.R_lower (Kd.R_new' (Kd.R_new' (Kd.R_new' (Kd.R_new' (Kd.R_new' ho46 (Kd.R_lt (by (with_reducible repeat (first | apply Kd.R_alloc | apply Kd.R_drewN | apply Kd.R_drew)); exact HO185.out))) (Kd.R_lt (by (with_reducible repeat (first | apply Kd.R_alloc | apply Kd.R_drewN | apply Kd.R_drew)); exact HO196.out))) (Kd.R_lt (by (with_reducible repeat (first | apply Kd.R_alloc | apply Kd.R_drewN | apply Kd.R_drew)); exact HO204.out))) (Kd.R_lt (by (with_reducible repeat (first | apply Kd.R_alloc | apply Kd.R_drewN | apply Kd.R_drew)); exact HO212.out))) (Kd.R_lt (by (with_reducible repeat (first | apply Kd.R_alloc | apply Kd.R_drewN | apply Kd.R_drew)); exact HO216.out))) (below_size (by repeat (first | (with_reducible first | exact HB.out | apply below_alloc | apply pw_below_drewN | apply below_drew1) | exact HB.out)))); have n12_ := Aside0.mk (below_step (by repeat (first | (with_reducible first | exact HB.out | apply below_alloc | apply pw_below_drewN | apply below_drew1) | exact HB.out)) hb); clear HO179; clear HO182; clear HO185; clear HO190; clear HO193; clear HO196; clear HO201; clear HO204; clear HO209; clear HO212; clear HO216; clear HB; have HO179 := n0_; have HO182 := n1_; have HO185 := n2_; have HO190 := n3_; have HO193 := n4_; have HO196 := n5_; have HO201 := n6_; have HO204 := n7_; have HO209 := n8_; have HO212 := n9_; have HO216 := n10_; have HO220 := n11_; have HB := n12_; clear n0_ n1_ n2_ n3_ n4_ n5_ n6_ n7_ n8_ n9_ n10_ n11_ n12_; clear hb ho46; obtain ⟨Ao47, co47, eo47⟩ := Kd.R_slice HO204.out; subst eo47; obtain ⟨Ao48, co48, eo48⟩ := Kd.R_slice HO220.out; subst eo48) | (go_at_call 23; (with_reducible refine (kingpinlaw08_ints.calls k _ _ t202 _ _ y218 true _ ?side1 ?side2 ?side3 ?side4 A15.out).mono ?_); (case side1 => repeat (first | exact (Kd.R_reads' HO204.out).2.2 | (with_reducible refine Kd.C_alloc ?_ _) | (with_reducible refine Kd.C_drewN ?_ _) | (with_reducible refine Kd.C_drew ?_))); (case side2 => exact (Kd.R_reads' HO204.out).2.1); (case side3 => repeat (first | exact (Kd.R_reads' HO220.out).2.2 | (with_reducible refine Kd.C_alloc ?_ _) | (with_reducible refine Kd.C_drewN ?_ _) | (with_reducible refine Kd.C_drew ?_))); (case side4 => exact (Kd.R_reads' HO220.out).2.1); rintro e w' ⟨rfl, ⟨nd, rfl⟩⟩; obtain ⟨Ao49, co49, eo49⟩ := Kd.S_slice HO209.out; subst eo49) | (go_at_call 31; (with_reducible refine (league_ProveSchedule.calls 4 _ _ t206 3 true _ ?side1 ?side2 A18.out).mono ?_); (case side1 => repeat (first | exact (Kd.S_reads' HO209.out).2.2 | (with_reducible refine Kd.C_alloc ?_ _) | (with_reducible refine Kd.C_drewN ?_ _) | (with_reducible refine Kd.C_drew ?_))); (case side2 => exact (Kd.S_reads' HO209.out).2.1); rintro e w50 ⟨rfl, hb⟩; have n0_ := Aside0.mk (Kd.R_below (by (with_reducible repeat (first | apply Kd.R_alloc | apply Kd.R_drewN | apply Kd.R_drew)); exact HO179.out) hb); have n1_ := Aside0.mk (Kd.R_below (by (with_reducible repeat (first | apply Kd.R_alloc | apply Kd.R_drewN | apply Kd.R_drew)); exact HO182.out) hb); have n2_ := Aside0.mk (Kd.R_below (by (with_reducible repeat (first | apply Kd.R_alloc | apply Kd.R_drewN | apply Kd.R_drew)); exact HO185.out) hb); have n3_ := Aside0.mk (Kd.R_below (by (with_reducible repeat (first | apply Kd.R_alloc | apply Kd.R_drewN | apply Kd.R_drew)); exact HO190.out) hb); have n4_ := Aside0.mk (Kd.R_below (by (with_reducible repeat (first | apply Kd.R_alloc | apply Kd.R_drewN | apply Kd.R_drew)); exact HO193.out) hb); have n5_ := Aside0.mk (Kd.R_below (by (with_reducible repeat (first | apply Kd.R_alloc | apply Kd.R_drewN | apply Kd.R_drew)); exact HO196.out) hb); have n6_ := Aside0.mk (Kd.R_below (by (with_reducible repeat (first | apply Kd.R_alloc | apply Kd.R_drewN | apply Kd.R_drew)); exact HO201.out) hb); have n7_ := Aside0.mk (Kd.R_below (by (with_reducible repeat (first | apply Kd.R_alloc | apply Kd.R_drewN | apply Kd.R_drew)); exact HO204.out) hb); have n8_ := Aside0.mk (Kd.S_below (by (with_reducible repeat (first | apply Kd.S_alloc | apply Kd.S_drewN | apply Kd.S_drew)); exact HO209.out) hb); have n9_ := Aside0.mk (Kd.R_below (by (with_reducible repeat (first | apply Kd.R_alloc | apply Kd.R_drewN | apply Kd.R_drew)); exact HO212.out) hb); have n10_ := Aside0.mk (Kd.R_below (by (with_reducible repeat (first | apply Kd.R_alloc | apply Kd.R_drewN | apply Kd.R_drew)); exact HO216.out) hb); have n11_ := Aside0.mk (Kd.R_below (by (with_reducible repeat (first | apply Kd.R_alloc | apply Kd.R_drewN | apply Kd.R_drew)); exact HO220.out) hb); have n12_ := Aside0.mk (below_step (by repeat (first | (with_reducible first | exact HB.out | apply below_alloc | apply pw_below_drewN | apply below_drew1) | exact HB.out)) hb); clear HO179; clear HO182; clear HO185; clear HO190; clear HO193; clear HO196; clear HO201; clear HO204; clear HO209; clear HO212; clear HO216; clear HO220; clear HB; have HO179 := n0_; have HO182 := n1_; have HO185 := n2_; have HO190 := n3_; have HO193 := n4_; have HO196 := n5_; have HO201 := n6_; have HO204 := n7_; have HO209 := n8_; have HO212 := n9_; have HO216 := n10_; have HO220 := n11_; have HB := n12_; clear n0_ n1_ n2_ n3_ n4_ n5_ n6_ n7_ n8_ n9_ n10_ n11_ n12_; (try clear hb); (try clear hb2); (try clear hk); (try clear hi)) | (go_at_call 31; (with_reducible refine (league_ProveSchedule.calls 4 _ _ t206 2 t223 _ ?side1 ?side2 A20.out).mono ?_); (case side1 => repeat (first | exact (Kd.S_reads' HO209.out).2.2 | (with_reducible refine Kd.C_alloc ?_ _) | (with_reducible refine Kd.C_drewN ?_ _) | (with_reducible refine Kd.C_drew ?_))); (case side2 => exact (Kd.S_reads' HO209.out).2.1); rintro e w51 ⟨rfl, hb⟩; have n0_ := Aside0.mk (Kd.R_below (by (with_reducible repeat (first | apply Kd.R_alloc | apply Kd.R_drewN | apply Kd.R_drew)); exact HO179.out) hb); have n1_ := Aside0.mk (Kd.R_below (by (with_reducible repeat (first | apply Kd.R_alloc | apply Kd.R_drewN | apply Kd.R_drew)); exact HO182.out) hb); have n2_ := Aside0.mk (Kd.R_below (by (with_reducible repeat (first | apply Kd.R_alloc | apply Kd.R_drewN | apply Kd.R_drew)); exact HO185.out) hb); have n3_ := Aside0.mk (Kd.R_below (by (with_reducible repeat (first | apply Kd.R_alloc | apply Kd.R_drewN | apply Kd.R_drew)); exact HO190.out) hb); have n4_ := Aside0.mk (Kd.R_below (by (with_reducible repeat (first | apply Kd.R_alloc | apply Kd.R_drewN | apply Kd.R_drew)); exact HO193.out) hb); have n5_ := Aside0.mk (Kd.R_below (by (with_reducible repeat (first | apply Kd.R_alloc | apply Kd.R_drewN | apply Kd.R_drew)); exact HO196.out) hb); have n6_ := Aside0.mk (Kd.R_below (by (with_reducible repeat (first | apply Kd.R_alloc | apply Kd.R_drewN | apply Kd.R_drew)); exact HO201.out) hb); have n7_ := Aside0.mk (Kd.R_below (by (with_reducible repeat (first | apply Kd.R_alloc | apply Kd.R_drewN | apply Kd.R_drew)); exact HO204.out) hb); have n8_ := Aside0.mk (Kd.S_below (by (with_reducible repeat (first | apply Kd.S_alloc | apply Kd.S_drewN | apply Kd.S_drew)); exact HO209.out) hb); have n9_ := Aside0.mk (Kd.R_below (by (with_reducible repeat (first | apply Kd.R_alloc | apply Kd.R_drewN | apply Kd.R_drew)); exact HO212.out) hb); have n10_ := Aside0.mk (Kd.R_below (by (with_reducible repeat (first | apply Kd.R_alloc | apply Kd.R_drewN | apply Kd.R_drew)); exact HO216.out) hb); have n11_ := Aside0.mk (Kd.R_below (by (with_reducible repeat (first | apply Kd.R_alloc | apply Kd.R_drewN | apply Kd.R_drew)); exact HO220.out) hb); have n12_ := Aside0.mk (below_step (by repeat (first | (with_reducible first | exact HB.out | apply below_alloc | apply pw_below_drewN | apply below_drew1) | exact HB.out)) hb); clear HO179; clear HO182; clear HO185; clear HO190; clear HO193; clear HO196; clear HO201; clear HO204; clear HO209; clear HO212; clear HO216; clear HO220; clear HB; have HO179 := n0_; have HO182 := n1_; have HO185 := n2_; have HO190 := n3_; have HO193 := n4_; have HO196 := n5_; have HO201 := n6_; have HO204 := n7_; have HO209 := n8_; have HO212 := n9_; have HO216 := n10_; have HO220 := n11_; have HB := n12_; clear n0_ n1_ n2_ n3_ n4_ n5_ n6_ n7_ n8_ n9_ n10_ n11_ n12_; (try clear hb); (try clear hb2); (try clear hk); (try clear hi)))
         go_ret
         exact ⟨by first | rfl | (simp [errW_none, errW_some] <;> rfl) | (simp [*, errW_none, errW_some] <;> rfl), by repeat (first | (with_reducible first | exact HB.out | apply below_alloc | apply pw_below_drewN | apply below_drew1) | exact HB.out)⟩
        ·
         rw [if_neg c19] at H
         exact absurd (H.trans (congrArg some hr)) (by simp)
       ·
        rw [if_neg c17] at H
        exact absurd (H.trans (congrArg some hr)) (by simp)
      ·
       rw [if_neg c16] at H
       exact absurd (H.trans (congrArg some hr)) (by simp)
     ·
      rw [if_neg c14] at H
      exact absurd (H.trans (congrArg some hr)) (by simp)
    ·
     rw [if_neg c13] at H
     exact absurd (H.trans (congrArg some hr)) (by simp)
   ·
    rw [if_neg c11] at H
    exact absurd (H.trans (congrArg some hr)) (by simp)
  ·
   rw [if_neg c10] at H
   exact absurd (H.trans (congrArg some hr)) (by simp)
 ·
  rw [if_neg c8] at H
  exact absurd (H.trans (congrArg some hr)) (by simp)
set_option maxRecDepth 100000 in
theorem awake_40 : awakeF 40 = some true := by kernel_rfl
def kingpinlaw08_awake.f : Option Bool := some true
theorem kingpinlaw08_awake.calls (r : Bool) (w : World) (h : kingpinlaw08_awake.f = some r) : Calls Try.prog 16 #[] w fun e w' => e = .returned (.bool r) ∧ Below w.heap.size w w' := by
 obtain rfl := Option.some.inj h
 exact awake_calls 40 true w rfl awake_40
end Go.Proofs.Ytmnamkcjldaoeaa.PAll
namespace Go.Proofs.Ytmnamkcjldaoeaa.PAll
open Go.RowKit Go.Proofs.YtmnamkcjldaoeaaW.PrintWords Go.Proofs.YtmnamkcjldaoeaaW.PrintLast Go.Proofs.YtmnamkcjldaoeaaW.PrintMore
set_option linter.unusedVariables false
set_option linter.unusedSimpArgs false
theorem awake_ev : Ev (fun _ => kingpinlaw08_awake.f) true := Ev.now true
def toG (x : S70) : S85 := ⟨x.f0, x.f1, x.f2, x.f3, x.f4⟩
theorem wrapN (n : Nat) (h : n < 4611686018427387904) : wrap64 ((n : Int) + 1) = ((n + 1 : Nat) : Int) := by
 rw [IntWalk.wrap64_in _ ⟨by omega, by omega⟩]
 omega
theorem drop70 (l : List S70) (i : Nat) (h : i < l.length) : l.drop i = rd_T70 l (i : Int) :: l.drop (i + 1) := by
 rw [List.drop_eq_getElem_cons h]
 congr 1
 unfold rd_T70
 rw [Int.toNat_natCast, List.getD_eq_getElem?_getD, List.getElem?_eq_getElem h, Option.getD_some]
theorem dropI (l : List Int) (i : Nat) (h : i < l.length) : l.drop i = rd l (i : Int) :: l.drop (i + 1) := by
 rw [List.drop_eq_getElem_cons h]
 congr 1
 unfold rd
 rw [Int.toNat_natCast, List.getD_eq_getElem?_getD, List.getElem?_eq_getElem h, Option.getD_some]
theorem League_ev (a : Int) (l : List S70) (hl : l.length ≤ 1000) : Ev (fun k => kingpinlaw08_League.f k a l) (a, l.map toG) := by
 have main : ∀ (d i : Nat) (acc : List S85), l.length - i = d → i ≤ l.length → acc.length = i → Ev (fun k => kingpinlaw08_League.l0 k (i : Int) a l a acc) (a, acc ++ (l.drop i).map toG) := by
  intro d
  induction d with
  | zero =>
   intro i acc hd hi ha
   obtain rfl : i = l.length := by omega
   refine Ev.step (f := fun _ => some (a, acc)) (fun k => ?_) ?_
   ·
    simp only [kingpinlaw08_League.l0]
    rw [if_neg (by omega)]
   ·
    simpa using Ev.now (a, acc)
  | succ d ih =>
   intro i acc hd hi ha
   refine Ev.step (f := fun k => kingpinlaw08_League.l0 k ((i + 1 : Nat) : Int) a l a (acc ++ [toG (rd_T70 l (i : Int))])) (fun k => ?_) ?_
   ·
    simp only [kingpinlaw08_League.l0]
    rw [if_pos (by omega), if_pos (by omega), if_pos (by omega), wrapN i (by omega)]
    rfl
   ·
    have := ih (i + 1) (acc ++ [toG (rd_T70 l (i : Int))]) (by omega) (by omega) (by simp [ha])
    rw [drop70 l i (by omega), List.map_cons]
    simpa using this
 have := main l.length 0 [] rfl (Nat.zero_le _) rfl
 rw [List.nil_append, List.drop_zero] at this
 exact this
theorem In_eq (a b c : Int) : kingpinref08_In.f a b c = some (decide (b ≤ a) && decide (a ≤ c)) := by
 unfold kingpinref08_In.f
 by_cases h : b ≤ a <;> simp [h]
theorem gameB_iff (n : Int) (g : S85) : gameB n g = true ↔ (0 ≤ g.f2 ∧ g.f2 ≤ 3000) ∧ (0 ≤ g.f3 ∧ g.f3 ≤ 3000) ∧ (0 ≤ g.f0 ∧ g.f0 < n) ∧ (0 ≤ g.f1 ∧ g.f1 < n) ∧ g.f0 ≠ g.f1 ∧ (g.f4 = true → g.f2 = 0 ∧ g.f3 = 0) := by
 unfold gameB
 cases h : g.f4 <;> simp [and_assoc]
theorem Fault_ev (a : Int) (l : List S70) (hl : l.length ≤ 1000) : Ev (fun k => kingpinref08_Fault.f k a l) (checkF a (l.map toG)) := by
 unfold kingpinref08_Fault.f checkF
 rw [List.length_map]
 by_cases h20 : 20 < l.length
 ·
  rw [if_pos h20]
  refine Ev.congr (f := fun _ => some 3) (fun k => ?_) (Ev.now _)
  rw [if_pos (by omega)]
 ·
  rw [if_neg h20]
  by_cases ht : teamsB a = true
  ·
   have ht2 : 2 ≤ a ∧ a ≤ 6 := by simpa [teamsB] using ht
   have main : ∀ (d i : Nat), l.length - i = d → i ≤ l.length → Ev (fun k => kingpinref08_Fault.l0 k (i : Int) a l) (if ((l.drop i).map toG).all (gameB a) then 0 else 1) := by
    intro d
    induction d with
    | zero =>
     intro i hd hi
     obtain rfl : i = l.length := by omega
     refine Ev.step (f := fun _ => some 0) (fun k => ?_) ?_
     ·
      simp only [kingpinref08_Fault.l0]
      rw [if_neg (by omega)]
     ·
      simpa using Ev.now (0 : Int)
    | succ d ih =>
     intro i hd hi
     have ih1 := ih (i + 1) (by omega) (by omega)
     rw [drop70 l i (by omega), List.map_cons, List.all_cons]
     obtain ⟨x, hx⟩ : ∃ x, rd_T70 l (i : Int) = x := ⟨_, rfl⟩
     rw [hx]
     have ha1 : wrap64 (a - 1) = a - 1 := IntWalk.wrap64_in _ ⟨by omega, by omega⟩
     have hbody : ∀ k, kingpinref08_Fault.l0 (k + 1) (i : Int) a l = if gameB a (toG x) = true then kingpinref08_Fault.l0 k ((i + 1 : Nat) : Int) a l else some 1 := by
      intro k
      simp only [kingpinref08_Fault.l0]
      rw [if_pos (by omega), if_pos (by omega), wrapN i (by omega), hx, ha1]
      simp only [In_eq, Option.bind_some, Bool.and_eq_true, decide_eq_true_eq]
      by_cases c0 : 0 ≤ x.f0 ∧ x.f0 ≤ a - 1
      ·
       by_cases c1 : 0 ≤ x.f1 ∧ x.f1 ≤ a - 1
       ·
        by_cases c2 : x.f0 = x.f1
        ·
         rw [if_pos c0, if_pos c1, if_pos c2, if_neg (fun h => absurd ((gameB_iff _ _).1 h).2.2.2.2.1 (fun h2 => h2 c2))]
        ·
         by_cases c3 : 0 ≤ x.f2 ∧ x.f2 ≤ 3000
         ·
          by_cases c4 : 0 ≤ x.f3 ∧ x.f3 ≤ 3000
          ·
           have hw : wrap64 (x.f2 + x.f3) = x.f2 + x.f3 := IntWalk.wrap64_in _ ⟨by omega, by omega⟩
           rw [hw]
           by_cases c5 : x.f4 = true
           ·
            by_cases c6 : x.f2 + x.f3 > 0
            ·
             rw [if_pos c0, if_pos c1, if_neg c2, if_pos c3, if_pos c4, if_pos c5, if_pos c6, if_neg]
             intro h
             have h9 : x.f2 = 0 ∧ x.f3 = 0 := ((gameB_iff _ _).1 h).2.2.2.2.2 c5
             omega
            ·
             rw [if_pos c0, if_pos c1, if_neg c2, if_pos c3, if_pos c4, if_pos c5, if_neg c6, if_pos]
             exact (gameB_iff _ _).2 ⟨c3, c4, ⟨c0.1, by show x.f0 < a; omega⟩, ⟨c1.1, by show x.f1 < a; omega⟩, c2, fun _ => by show x.f2 = 0 ∧ x.f3 = 0; omega⟩
           ·
            rw [if_pos c0, if_pos c1, if_neg c2, if_pos c3, if_pos c4, if_neg c5, if_pos]
            exact (gameB_iff _ _).2 ⟨c3, c4, ⟨c0.1, by show x.f0 < a; omega⟩, ⟨c1.1, by show x.f1 < a; omega⟩, c2, fun h => absurd h c5⟩
          ·
           rw [if_pos c0, if_pos c1, if_neg c2, if_pos c3, if_neg c4, if_neg (fun h => c4 ((gameB_iff _ _).1 h).2.1)]
         ·
          rw [if_pos c0, if_pos c1, if_neg c2, if_neg c3, if_neg (fun h => c3 ((gameB_iff _ _).1 h).1)]
       ·
        rw [if_pos c0, if_neg c1, if_neg]
        intro h
        have h9 : 0 ≤ x.f1 ∧ x.f1 < a := ((gameB_iff _ _).1 h).2.2.2.1
        omega
      ·
       rw [if_neg c0, if_neg]
       intro h
       have h9 : 0 ≤ x.f0 ∧ x.f0 < a := ((gameB_iff _ _).1 h).2.2.1
       omega
     refine Ev.step hbody ?_
     by_cases hg : gameB a (toG x) = true
     ·
      simp only [hg, if_true, Bool.true_and]
      exact ih1
     ·
      simp only [hg, if_false, Bool.false_and, Bool.false_eq_true]
      exact Ev.now _
   have := main l.length 0 rfl (Nat.zero_le _)
   rw [ht, Bool.true_and]
   refine Ev.congr (fun k => ?_) this
   rw [if_neg (by omega), In_eq, decide_eq_true ht2.1, decide_eq_true ht2.2]
   rfl
  ·
   have ht2 : teamsB a = false := by simpa using ht
   rw [ht2, Bool.false_and, if_neg (by decide)]
   refine Ev.congr (f := fun _ => some 1) (fun k => ?_) (Ev.now _)
   rw [if_neg (by omega), In_eq]
   unfold teamsB at ht2
   rw [ht2]
   rfl
theorem gives_range (g : S85) : (givesF g).1 ∈ ([0, 1, 2] : List Int) ∧ (givesF g).2 ∈ ([0, 1, 2] : List Int) := by
 unfold givesF
 split
 ·
  simp
 ·
  split
  ·
   simp
  ·
   split <;> simp
end Go.Proofs.Ytmnamkcjldaoeaa.PAll
namespace Go.Proofs.Ytmnamkcjldaoeaa.PAll
open Go.RowKit Go.Proofs.YtmnamkcjldaoeaaW.PrintWords Go.Proofs.YtmnamkcjldaoeaaW.PrintLast Go.Proofs.YtmnamkcjldaoeaaW.PrintMore
set_option linter.unusedVariables false
set_option linter.unusedSimpArgs false
structure Give where
 a : Int
 x : Int
 b : Int
 y : Int
def Give.ok (m : Nat) (t : Give) : Prop := 0 ≤ t.a ∧ t.a < m ∧ 0 ≤ t.b ∧ t.b < m ∧ 0 ≤ t.x ∧ t.x ≤ 2 ∧ 0 ≤ t.y ∧ t.y ≤ 2
def step2 (s : List Int) (t : Give) : List Int := addAt (addAt s t.a t.x) t.b t.y
def Give.to (t : Give) (i : Nat) : Int := (if t.a = i then t.x else 0) + (if t.b = i then t.y else 0)
def sumTo (T : List Give) (i : Nat) : Int := (T.map fun t => t.to i).sum
theorem step2_len (s : List Int) (t : Give) : (step2 s t).length = s.length := by simp [step2, addAt]
theorem fold2_len (T : List Give) (s : List Int) : (T.foldl step2 s).length = s.length := by
 induction T generalizing s with
 | nil => rfl
 | cons t T ih => rw [List.foldl_cons, ih, step2_len]
theorem addAt_get (s : List Int) (j v : Int) (i : Nat) (h0 : 0 ≤ j) (hj : j < s.length) (B : Int) (hs : 0 ≤ s.getD j.toNat 0 ∧ s.getD j.toNat 0 ≤ B) (hB : B ≤ 1000000000) (hv : 0 ≤ v ∧ v ≤ 2) :
  (addAt s j v).getD i 0 = s.getD i 0 + (if j = i then v else 0) := by
 unfold addAt
 by_cases hij : j = i
 ·
  have : j.toNat = i := by omega
  subst this
  rw [if_pos hij, List.getD_eq_getElem?_getD, List.getElem?_set_self (by omega), Option.getD_some, IntWalk.wrap64_in _ ⟨by omega, by omega⟩]
 ·
  rw [if_neg hij, List.getD_eq_getElem?_getD, List.getElem?_set_ne (by omega), ← List.getD_eq_getElem?_getD, Int.add_zero]
theorem Give.to_range {m : Nat} {t : Give} (h : t.ok m) (i : Nat) : 0 ≤ t.to i ∧ t.to i ≤ 4 := by
 obtain ⟨_, _, _, _, h5, h6, h7, h8⟩ := h
 unfold Give.to
 split <;> split <;> omega
theorem fold2_get : ∀ (T : List Give) (s : List Int) (B : Int), (∀ t ∈ T, t.ok s.length) → (∀ i, 0 ≤ s.getD i 0 ∧ s.getD i 0 ≤ B) → B + 4 * T.length ≤ 1000000 → ∀ i : Nat, (T.foldl step2 s).getD i 0 = s.getD i 0 + sumTo T i
 | [], s, B, _, _, _, i => by simp [sumTo]
 | t :: T, s, B, hT, hs, hB, i => by
  rw [List.length_cons] at hB
  have ht := hT t List.mem_cons_self
  obtain ⟨o1, o2, o3, o4, o5, o6, o7, o8⟩ := ht
  have e1 : ∀ i : Nat, (addAt s t.a t.x).getD i 0 = s.getD i 0 + (if t.a = i then t.x else 0) := fun i => addAt_get s t.a t.x i o1 o2 B (hs _) (by omega) ⟨o5, o6⟩
  have hl1 : (addAt s t.a t.x).length = s.length := by simp [addAt]
  have e2 : ∀ i : Nat, (step2 s t).getD i 0 = s.getD i 0 + t.to i := by
   intro i
   have hb := e1 t.b.toNat
   have hs2 := hs t.b.toNat
   unfold step2 Give.to
   rw [addAt_get (addAt s t.a t.x) t.b t.y i o3 (by rw [hl1]; exact o4) (B + 2) (by rw [hb]; split <;> omega) (by omega) ⟨o7, o8⟩, e1 i]
   omega
  rw [List.foldl_cons, fold2_get T (step2 s t) (B + 4) (fun u hu => by rw [step2_len]; exact hT u (List.mem_cons_of_mem _ hu)) (fun i => by
   rw [e2]
   have := hs i
   have := Give.to_range (hT t List.mem_cons_self) i
   omega) (by push_cast at hB; omega), e2]
  simp only [sumTo, List.map_cons, List.sum_cons]
  omega
theorem sumTo_append (A B : List Give) (i : Nat) : sumTo (A ++ B) i = sumTo A i + sumTo B i := by simp [sumTo]
def gGive (g : S85) : Give := ⟨g.f0, (givesF g).1, g.f1, (givesF g).2⟩
def oGive (g : S85) (o : Int) : Give := ⟨g.f0, 3 - o, g.f1, o - 1⟩
def playT : List S85 → List Int → List Give
 | [], _ => []
 | g :: l, os => if g.f4 = true then oGive g (os.headD 0) :: playT l os.tail else gGive g :: playT l os
theorem openG_cons (g : S85) (l : List S85) : openG (g :: l) = if g.f4 = true then g :: openG l else openG l := by
 unfold openG
 rw [List.filter_cons]
theorem gives_open {g : S85} (h : g.f4 = true) : givesF g = (0, 0) := by
 unfold givesF
 rw [if_pos h]
theorem playT_sum (i : Nat) : ∀ (l : List S85) (os : List Int), os.length = (openG l).length → sumTo (playT l os) i = sumTo (l.map gGive) i + sumTo (((openG l).zip os).map fun p => oGive p.1 p.2) i
 | [], os, _ => by simp [playT, sumTo, openG]
 | g :: l, os, h => by
  rw [openG_cons] at h ⊢
  unfold playT
  by_cases hg : g.f4 = true
  ·
   rw [if_pos hg] at h ⊢
   rw [if_pos hg]
   match os, h with
   | o :: os, h =>
    have ih := playT_sum i l os (by simpa using h)
    have hz : (gGive g).to i = 0 := by
     unfold gGive Give.to
     rw [gives_open hg]
     simp
    simp only [sumTo, List.map_cons, List.sum_cons, List.zip_cons_cons, List.headD_cons, List.tail_cons] at ih ⊢
    omega
  ·
   rw [if_neg hg] at h ⊢
   rw [if_neg hg]
   have ih := playT_sum i l os h
   simp only [sumTo, List.map_cons, List.sum_cons] at ih ⊢
   omega
theorem gGive_ok {n : Int} {m : Nat} {g : S85} (h : gameB n g = true) (hm : n ≤ m) : (gGive g).ok m := by
 obtain ⟨_, _, ⟨h1, h2⟩, ⟨h3, h4⟩, _, _⟩ := (gameB_iff n g).1 h
 have := gives_range g
 simp only [List.mem_cons, List.not_mem_nil, or_false] at this
 unfold Give.ok gGive
 refine ⟨h1, by show g.f0 < m; omega, h3, by show g.f1 < m; omega, ?_, ?_, ?_, ?_⟩
 ·
  show 0 ≤ (givesF g).1; omega
 ·
  show (givesF g).1 ≤ 2; omega
 ·
  show 0 ≤ (givesF g).2; omega
 ·
  show (givesF g).2 ≤ 2; omega
theorem oGive_ok {n : Int} {m : Nat} {g : S85} (h : gameB n g = true) (hm : n ≤ m) {o : Int} (ho : 1 ≤ o ∧ o ≤ 3) : (oGive g o).ok m := by
 obtain ⟨_, _, ⟨h1, h2⟩, ⟨h3, h4⟩, _, _⟩ := (gameB_iff n g).1 h
 unfold Give.ok oGive
 refine ⟨h1, by show g.f0 < m; omega, h3, by show g.f1 < m; omega, ?_, ?_, ?_, ?_⟩
 ·
  show 0 ≤ 3 - o; omega
 ·
  show 3 - o ≤ 2; omega
 ·
  show 0 ≤ o - 1; omega
 ·
  show o - 1 ≤ 2; omega
theorem playT_ok {n : Int} {m : Nat} (hm : n ≤ m) : ∀ (l : List S85) (os : List Int), (∀ g ∈ l, gameB n g = true) → os.length = (openG l).length → (∀ o ∈ os, 1 ≤ o ∧ o ≤ 3) → (∀ t ∈ playT l os, t.ok m) ∧ (playT l os).length = l.length
 | [], os, _, _, _ => by simp [playT]
 | g :: l, os, hg, h, ho => by
  rw [openG_cons] at h
  unfold playT
  by_cases hf : g.f4 = true
  ·
   rw [if_pos hf] at h ⊢
   match os, h, ho with
   | o :: os, h, ho =>
    obtain ⟨i1, i2⟩ := playT_ok hm l os (fun x hx => hg x (List.mem_cons_of_mem _ hx)) (by simpa using h) (fun x hx => ho x (List.mem_cons_of_mem _ hx))
    refine ⟨?_, by simp [i2]⟩
    intro t ht
    rcases List.mem_cons.1 ht with rfl | ht
    ·
     exact oGive_ok (hg g List.mem_cons_self) hm (ho o List.mem_cons_self)
    ·
     exact i1 t ht
  ·
   rw [if_neg hf] at h ⊢
   obtain ⟨i1, i2⟩ := playT_ok hm l os (fun x hx => hg x (List.mem_cons_of_mem _ hx)) h ho
   refine ⟨?_, by simp [i2]⟩
   intro t ht
   rcases List.mem_cons.1 ht with rfl | ht
   ·
    exact gGive_ok (hg g List.mem_cons_self) hm
   ·
    exact i1 t ht
theorem rep_get (n i : Nat) : (List.replicate n (0 : Int)).getD i 0 = 0 := by
 rw [List.getD_eq_getElem?_getD]
 by_cases h : i < n
 ·
  simp [List.getElem?_replicate, h]
 ·
  simp [List.getElem?_replicate, h]
theorem afterSum_eq {n : Int} {l : List S85} {os : List Int} (hc : checkF n l = 0) (ho : os.length = (openG l).length) (hos : ∀ o ∈ os, 1 ≤ o ∧ o ≤ 3) :
  (afterSum l os).take n.toNat = (playT l os).foldl step2 (List.replicate n.toNat 0) := by
 obtain ⟨h20, n2, n6, hok⟩ := check_ok hc
 have hol : (openG l).length ≤ l.length := by unfold openG; exact List.length_filter_le _ _
 have e1 : sumsF l = (l.map gGive).foldl step2 (List.replicate 6 0) := by
  unfold sumsF
  rw [List.foldl_map]
  rfl
 have e2 : afterSum l os = (((openG l).zip os).map fun p => oGive p.1 p.2).foldl step2 ((l.map gGive).foldl step2 (List.replicate 6 0)) := by
  unfold afterSum
  rw [e1, List.foldl_map (f := fun p : S85 × Int => oGive p.1 p.2)]
  rfl
 rw [← List.foldl_append] at e2
 have hT1 : ∀ t ∈ (l.map gGive) ++ (((openG l).zip os).map fun p => oGive p.1 p.2), t.ok 6 := by
  intro t ht
  rcases List.mem_append.1 ht with ht | ht
  ·
   obtain ⟨g, hg, rfl⟩ := List.mem_map.1 ht
   exact gGive_ok (hok g hg) (by omega)
  ·
   obtain ⟨p, hp, rfl⟩ := List.mem_map.1 ht
   have h1 := List.of_mem_zip (a := p.1) (b := p.2) (by simpa using hp)
   exact oGive_ok (hok p.1 (List.mem_filter.1 h1.1).1) (by omega) (hos p.2 h1.2)
 obtain ⟨p1, p2⟩ := playT_ok (m := n.toNat) (by omega) l os hok ho hos
 have hg6 : ∀ i, (afterSum l os).getD i 0 = sumTo (playT l os) i := by
  intro i
  rw [e2, fold2_get _ (List.replicate 6 0) 0 (by simpa using hT1) (fun i => by rw [rep_get]; omega) (by
   simp only [List.length_append, List.length_map, List.length_zip]
   omega), rep_get, sumTo_append, playT_sum i l os ho]
  omega
 have hgn : ∀ i, ((playT l os).foldl step2 (List.replicate n.toNat 0)).getD i 0 = sumTo (playT l os) i := by
  intro i
  rw [fold2_get _ (List.replicate n.toNat 0) 0 (by simpa using p1) (fun i => by rw [rep_get]; omega) (by omega), rep_get]
  omega
 have hl6 : (afterSum l os).length = 6 := by rw [e2, fold2_len]; rfl
 have hln : ((playT l os).foldl step2 (List.replicate n.toNat 0)).length = n.toNat := by rw [fold2_len, List.length_replicate]
 refine List.ext_getElem (by rw [List.length_take, hl6, hln]; omega) fun i h1 h2 => ?_
 rw [List.getElem_take]
 have a1 := hg6 i
 have a2 := hgn i
 rw [List.getD_eq_getElem?_getD, List.getElem?_eq_getElem (by rw [List.length_take, hl6] at h1; omega), Option.getD_some] at a1
 rw [List.getD_eq_getElem?_getD, List.getElem?_eq_getElem h2, Option.getD_some] at a2
 rw [a1, a2]
theorem Open_ev (a : Int) (l : List S70) (hl : l.length ≤ 1000) : Ev (fun k => kingpinref08_Open.f k a l) ((openG (l.map toG)).length : Int) := by
 have main : ∀ (d i c : Nat), l.length - i = d → i ≤ l.length → c ≤ i → Ev (fun k => kingpinref08_Open.l0 k (c : Int) (i : Int) a l) ((c + (openG ((l.drop i).map toG)).length : Nat) : Int) := by
  intro d
  induction d with
  | zero =>
   intro i c hd hi hc
   obtain rfl : i = l.length := by omega
   rw [List.drop_length]
   refine Ev.step (f := fun _ => some ((c : Nat) : Int)) (fun k => ?_) ?_
   ·
    simp only [kingpinref08_Open.l0]
    rw [if_neg (by omega)]
   ·
    simpa [openG] using Ev.now (c : Int)
  | succ d ih =>
   intro i c hd hi hc
   rw [drop70 l i (by omega), List.map_cons, openG_cons]
   obtain ⟨x, hx⟩ : ∃ x, rd_T70 l (i : Int) = x := ⟨_, rfl⟩
   rw [hx]
   by_cases hf : x.f4 = true
   ·
    rw [if_pos (show (toG x).f4 = true from hf), List.length_cons]
    have := ih (i + 1) (c + 1) (by omega) (by omega) (by omega)
    rw [show c + ((openG ((l.drop (i + 1)).map toG)).length + 1) = c + 1 + (openG ((l.drop (i + 1)).map toG)).length from by omega]
    refine Ev.step (fun k => ?_) this
    simp only [kingpinref08_Open.l0]
    rw [if_pos (by omega), if_pos (by omega), hx, if_pos hf, wrapN c (by omega), wrapN i (by omega)]
   ·
    rw [if_neg (show ¬ (toG x).f4 = true from hf)]
    refine Ev.step (fun k => ?_) (ih (i + 1) c (by omega) (by omega) (by omega))
    simp only [kingpinref08_Open.l0]
    rw [if_pos (by omega), if_pos (by omega), hx, if_neg hf, wrapN i (by omega)]
 have := main l.length 0 0 rfl (Nat.zero_le _) (Nat.zero_le _)
 rw [Nat.zero_add, List.drop_zero] at this
 exact this
end Go.Proofs.Ytmnamkcjldaoeaa.PAll
namespace Go.Proofs.Ytmnamkcjldaoeaa.PAll
open Go.RowKit Go.Proofs.YtmnamkcjldaoeaaW.PrintWords Go.Proofs.YtmnamkcjldaoeaaW.PrintLast Go.Proofs.YtmnamkcjldaoeaaW.PrintMore
set_option linter.unusedVariables false
set_option linter.unusedSimpArgs false
def readyB (a : Int) (l : List S70) : Bool := decide (l.length ≤ 24) && decide (checkF a (l.map toG) = 0)
theorem ready_ev (a : Int) (l : List S70) : Ev (fun k => kingpinlaw08_ready.f k a l) (readyB a l) := by
 unfold kingpinlaw08_ready.f kingpinlaw08_Thin.f readyB
 simp only [Option.bind_some, decide_eq_true_eq]
 by_cases ht : l.length ≤ 24
 ·
  simp only [if_pos (show (l.length : Int) ≤ 24 by omega), decide_eq_true ht, Bool.true_and]
  exact Ev.bind (Fault_ev a l (by omega)) (Ev.now _)
 ·
  simp only [if_neg (show ¬ (l.length : Int) ≤ 24 by omega), decide_eq_false ht, Bool.false_and]
  exact Ev.now _
theorem word_ok (words : List Int) (hw : ∀ x ∈ words, 0 ≤ x ∧ x ≤ 65535) (hl : words.length ≤ 9223372036854775807) (i : Nat) : ∃ r, kingpinlaw08_word.f words (i : Int) = some r ∧ 0 ≤ r ∧ r ≤ 65535 := by
 unfold kingpinlaw08_word.f
 by_cases h0 : (words.length : Int) = 0
 ·
  exact ⟨0, if_pos h0, by decide, by decide⟩
 ·
  have h1 := Int.tmod_nonneg (a := (i : Int)) (words.length : Int) (by omega)
  have h2 := Int.tmod_lt_of_pos (i : Int) (show (0 : Int) < (words.length : Int) by omega)
  rw [if_neg h0, if_pos h1, if_pos h2]
  obtain ⟨j, hj⟩ : ∃ j : Nat, Int.tmod (i : Int) (words.length : Int) = j := ⟨(Int.tmod (i : Int) (words.length : Int)).toNat, by omega⟩
  rw [hj] at h2 ⊢
  have hm : rd words (j : Int) ∈ words := List.mem_of_mem_drop (i := j) (by rw [dropI words j (by omega)]; exact List.mem_cons_self)
  have hr := hw _ hm
  exact ⟨_, rfl, by rw [IntWalk.wrap64_in _ ⟨by omega, by omega⟩]; exact hr.1, by rw [IntWalk.wrap64_in _ ⟨by omega, by omega⟩]; exact hr.2⟩
theorem ended_ev (a : Int) (l : List S70) (words : List Int) (hw : ∀ x ∈ words, 0 ≤ x ∧ x ≤ 65535) (hwl : words.length ≤ 9223372036854775807) (hl : l.length ≤ 1000) :
  ∃ os, Ev (fun k => kingpinlaw08_ended.f k a l words) os ∧ os.length = (openG (l.map toG)).length ∧ ∀ o ∈ os, 1 ≤ o ∧ o ≤ 3 := by
 have hol : (openG (l.map toG)).length ≤ l.length := by
  have := List.length_filter_le (fun g : S85 => g.f4) (l.map toG)
  rw [List.length_map] at this
  exact this
 obtain ⟨m, hm⟩ : ∃ m, (openG (l.map toG)).length = m := ⟨_, rfl⟩
 have hO := Open_ev a l hl
 rw [hm] at hO hol ⊢
 have main : ∀ (d i : Nat) (acc : List Int), m - i = d → i ≤ m → acc.length = i → (∀ o ∈ acc, 1 ≤ o ∧ o ≤ 3) →
   ∃ os, Ev (fun k => kingpinlaw08_ended.l0 k words acc (i : Int) a l) os ∧ os.length = m ∧ ∀ o ∈ os, 1 ≤ o ∧ o ≤ 3 := by
  intro d
  induction d with
  | zero =>
   intro i acc hd hi ha hacc
   obtain rfl : i = m := by omega
   refine ⟨acc, ?_, ha, hacc⟩
   refine Ev.step (f := fun k => (kingpinref08_Open.f k a l).bind fun t => if (i : Int) < t then ((kingpinlaw08_word.f words (i : Int)).bind fun t453 => (if acc.length < 140737488355328 then (kingpinlaw08_ended.l0 k words (acc ++ [(wrap64 (1 + (Int.tmod t453 3))) % 256]) (wrap64 ((i : Int) + 1)) a l) else (none))) else (some acc)) (fun k => rfl) ?_
   refine Ev.bind hO ?_
   simp only [if_neg (show ¬ (i : Int) < (i : Int) by omega)]
   exact Ev.now _
  | succ d ih =>
   intro i acc hd hi ha hacc
   obtain ⟨r, hr, r0, r1⟩ := word_ok words hw hwl i
   have h3a := Int.tmod_nonneg (a := r) 3 r0
   have h3b := Int.tmod_lt_of_pos r (show (0 : Int) < 3 by decide)
   have hv : (wrap64 (1 + Int.tmod r 3)) % 256 = 1 + Int.tmod r 3 := by
    rw [IntWalk.wrap64_in _ ⟨by omega, by omega⟩]
    omega
   obtain ⟨os, h1, h2, h3⟩ := ih (i + 1) (acc ++ [1 + Int.tmod r 3]) (by omega) (by omega) (by simp [ha]) (by
    intro o ho
    rcases List.mem_append.1 ho with ho | ho
    ·
     exact hacc o ho
    ·
     rw [List.mem_singleton] at ho
     omega)
   refine ⟨os, ?_, h2, h3⟩
   refine Ev.step (f := fun k => (kingpinref08_Open.f k a l).bind fun t => if (i : Int) < t then ((kingpinlaw08_word.f words (i : Int)).bind fun t453 => (if acc.length < 140737488355328 then (kingpinlaw08_ended.l0 k words (acc ++ [(wrap64 (1 + (Int.tmod t453 3))) % 256]) (wrap64 ((i : Int) + 1)) a l) else (none))) else (some acc)) (fun k => rfl) ?_
   refine Ev.bind hO ?_
   simp only [if_pos (show (i : Int) < (m : Int) by omega), hr, Option.bind_some, if_pos (show acc.length < 140737488355328 by omega), hv, wrapN i (by omega)]
   exact h1
 have := main m 0 [] rfl (Nat.zero_le _) rfl (by simp)
 exact this
theorem set_sum (v : Int) : ∀ (s : List Int) (j : Nat), j < s.length → (s.set j (s.getD j 0 + v)).sum = s.sum + v
 | x :: s, 0, _ => by
  simp
  omega
 | x :: s, j + 1, h => by
  have := set_sum v s j (by simpa using h)
  simp only [List.set_cons_succ, List.sum_cons, List.getD_cons_succ] at this ⊢
  omega
theorem addAt_sum (s : List Int) (j v : Int) (h0 : 0 ≤ j) (hj : j < s.length) (B : Int) (hs : 0 ≤ s.getD j.toNat 0 ∧ s.getD j.toNat 0 ≤ B) (hB : B ≤ 1000000000) (hv : 0 ≤ v ∧ v ≤ 2) : (addAt s j v).sum = s.sum + v := by
 unfold addAt
 rw [IntWalk.wrap64_in _ ⟨by omega, by omega⟩]
 exact set_sum v s j.toNat (by omega)
def Give.both (t : Give) : Int := t.x + t.y
theorem fold2_sum : ∀ (T : List Give) (s : List Int) (B : Int), (∀ t ∈ T, t.ok s.length) → (∀ i, 0 ≤ s.getD i 0 ∧ s.getD i 0 ≤ B) → B + 4 * T.length ≤ 1000000 → (T.foldl step2 s).sum = s.sum + (T.map Give.both).sum
 | [], s, B, _, _, _ => by simp
 | t :: T, s, B, hT, hs, hB => by
  rw [List.length_cons] at hB
  have ht := hT t List.mem_cons_self
  obtain ⟨o1, o2, o3, o4, o5, o6, o7, o8⟩ := ht
  have e1 : ∀ i : Nat, (addAt s t.a t.x).getD i 0 = s.getD i 0 + (if t.a = i then t.x else 0) := fun i => addAt_get s t.a t.x i o1 o2 B (hs _) (by omega) ⟨o5, o6⟩
  have hl1 : (addAt s t.a t.x).length = s.length := by simp [addAt]
  have hb := e1 t.b.toNat
  have hs2 := hs t.b.toNat
  have hsum : (step2 s t).sum = s.sum + t.both := by
   unfold step2 Give.both
   rw [addAt_sum (addAt s t.a t.x) t.b t.y o3 (by rw [hl1]; exact o4) (B + 2) (by rw [hb]; split <;> omega) (by omega) ⟨o7, o8⟩, addAt_sum s t.a t.x o1 o2 B (hs _) (by omega) ⟨o5, o6⟩]
   omega
  have e2 : ∀ i : Nat, (step2 s t).getD i 0 = s.getD i 0 + t.to i := by
   intro i
   have := fold2_get [t] s B (by simpa using ⟨o1, o2, o3, o4, o5, o6, o7, o8⟩) hs (by simp; omega) i
   simpa [sumTo] using this
  rw [List.foldl_cons, fold2_sum T (step2 s t) (B + 4) (fun u hu => by rw [step2_len]; exact hT u (List.mem_cons_of_mem _ hu)) (fun i => by
   rw [e2]
   have := hs i
   have := Give.to_range (hT t List.mem_cons_self) i
   omega) (by push_cast at hB; omega), hsum, List.map_cons, List.sum_cons]
  omega
theorem playT_both : ∀ (l : List S85) (os : List Int), ((playT l os).map Give.both).sum = 2 * l.length
 | [], os => by simp [playT]
 | g :: l, os => by
  unfold playT
  by_cases hg : g.f4 = true
  ·
   rw [if_pos hg, List.map_cons, List.sum_cons, playT_both l os.tail, List.length_cons]
   unfold Give.both oGive
   push_cast
   omega
  ·
   rw [if_neg hg, List.map_cons, List.sum_cons, playT_both l os, List.length_cons]
   have : (gGive g).both = 2 := by
    unfold Give.both gGive givesF
    rw [if_neg hg]
    split
    ·
     rfl
    ·
     split <;> rfl
   rw [this]
   push_cast
   omega
def pts (n : Int) (l : List S85) (os : List Int) : List Int := (playT l os).foldl step2 (List.replicate n.toNat 0)
theorem pts_len (n : Int) (l : List S85) (os : List Int) : (pts n l os).length = n.toNat := by
 unfold pts
 rw [fold2_len, List.length_replicate]
theorem pts_get {n : Int} {l : List S85} {os : List Int} (hc : checkF n l = 0) (ho : os.length = (openG l).length) (hos : ∀ o ∈ os, 1 ≤ o ∧ o ≤ 3) (i : Nat) : (pts n l os).getD i 0 = sumTo (playT l os) i := by
 obtain ⟨h20, n2, n6, hok⟩ := check_ok hc
 obtain ⟨p1, p2⟩ := playT_ok (m := n.toNat) (by omega) l os hok ho hos
 unfold pts
 rw [fold2_get _ (List.replicate n.toNat 0) 0 (by simpa using p1) (fun i => by rw [rep_get]; omega) (by omega), rep_get]
 omega
theorem sumTo_nonneg {m : Nat} : ∀ (T : List Give) (i : Nat), (∀ t ∈ T, t.ok m) → 0 ≤ sumTo T i
 | [], i, _ => by simp [sumTo]
 | t :: T, i, h => by
  have h1 := sumTo_nonneg T i (fun u hu => h u (List.mem_cons_of_mem _ hu))
  have h2 := Give.to_range (h t List.mem_cons_self) i
  simp only [sumTo, List.map_cons, List.sum_cons] at h1 ⊢
  omega
theorem pts_nonneg {n : Int} {l : List S85} {os : List Int} (hc : checkF n l = 0) (ho : os.length = (openG l).length) (hos : ∀ o ∈ os, 1 ≤ o ∧ o ≤ 3) : ∀ x ∈ pts n l os, 0 ≤ x := by
 obtain ⟨h20, n2, n6, hok⟩ := check_ok hc
 obtain ⟨p1, p2⟩ := playT_ok (m := n.toNat) (by omega) l os hok ho hos
 intro x hx
 obtain ⟨i, hi, rfl⟩ := List.getElem_of_mem hx
 have := pts_get hc ho hos i
 rw [List.getD_eq_getElem?_getD, List.getElem?_eq_getElem hi, Option.getD_some] at this
 rw [this]
 exact sumTo_nonneg _ i p1
theorem pts_sum {n : Int} {l : List S85} {os : List Int} (hc : checkF n l = 0) (ho : os.length = (openG l).length) (hos : ∀ o ∈ os, 1 ≤ o ∧ o ≤ 3) : (pts n l os).sum = 2 * l.length := by
 obtain ⟨h20, n2, n6, hok⟩ := check_ok hc
 obtain ⟨p1, p2⟩ := playT_ok (m := n.toNat) (by omega) l os hok ho hos
 unfold pts
 rw [fold2_sum _ (List.replicate n.toNat 0) 0 (by simpa using p1) (fun i => by rw [rep_get]; omega) (by omega), playT_both]
 simp
theorem afterF_ok {n : Int} {l : List S85} {os : List Int} (hc : checkF n l = 0) (ho : os.length = (openG l).length) (hos : ∀ o ∈ os, 1 ≤ o ∧ o ≤ 3) : afterF n l os = (pts n l os, 0) := by
 unfold afterF
 have hb : os.all outB = true := List.all_eq_true.2 fun x hx => by simpa [outB] using hos x hx
 rw [hc, if_neg (by decide), if_neg (by rw [hb]; simp [ho]), afterSum_eq hc ho hos]
 rfl
theorem nonneg_sum : ∀ (l : List Int), (∀ x ∈ l, 0 ≤ x) → 0 ≤ l.sum
 | [], _ => by simp
 | x :: l, h => by
  have h1 := nonneg_sum l (fun y hy => h y (List.mem_cons_of_mem _ hy))
  have h2 := h x List.mem_cons_self
  rw [List.sum_cons]
  omega
end Go.Proofs.Ytmnamkcjldaoeaa.PAll
namespace Go.Proofs.Ytmnamkcjldaoeaa.PAll
open Go.RowKit Go.Proofs.YtmnamkcjldaoeaaW.PrintWords Go.Proofs.YtmnamkcjldaoeaaW.PrintLast Go.Proofs.YtmnamkcjldaoeaaW.PrintMore
attribute [local go_sem] max2_int min2_int max_two min_two max_three min_three max_four min_four   -- for this text's walks alone
set_option linter.unusedVariables false
set_option linter.unusedSimpArgs false
def kingpinlaw08_LeagueGives.l0 : Nat → List Int → Int → Int → Int → Int → List (S70) → Option (Bool)
 | 0, _, _, _, _, _, _ => none
 | k + 1, x5, x6, x7, x8, x410000, x410001 => if x8 < (x5.length : Int) then (if 0 ≤ x8 then (if (rd x5 x8) < 0 then (some false) else (kingpinlaw08_LeagueGives.l0 k x5 x6 (wrap64 (x7 + (rd x5 x8))) (wrap64 (x8 + 1)) x410000 x410001)) else (none)) else (if x6 = 0 then (if (x5.length : Int) = x410000 then (if x7 = (wrap64 (2 * (x410001.length : Int))) then ((kingpinlaw08_awake.f).bind fun t425 => (some t425)) else (some false)) else (some false)) else (some false))
def kingpinlaw08_LeagueGives.f (k : Nat) (a0_0 : Int) (l0_1 : List (S70)) (l1 : List Int) : Option (Bool) := (kingpinlaw08_ready.f k a0_0 l0_1).bind fun t410 => (if t410 = true then ((kingpinlaw08_League.f k a0_0 l0_1).bind fun bt412 => ((kingpinlaw08_ended.f k a0_0 l0_1 l1).bind fun t416 => ((league_After.f bt412.1 bt412.2 t416).bind fun bt419 => (kingpinlaw08_LeagueGives.l0 k bt419.1 bt419.2 0 0 a0_0 l0_1)))) else ((kingpinlaw08_awake.f).bind fun t411 => (some t411)))
def kingpinlaw08_LeagueGives.T3 : Bool × List (List Nat × List Nat) := (true, [([], []), ([0], [0]), ([], []), ([], []), ([2, 3, 1], [2, 3]), ([1, 4, 4], [1, 4]), ([5], [5]), ([6], [6]), ([6], [6]), ([7, 5, 0, 1, 2, 3, 4, 5, 6, 7], [7]), ([8, 9, 0, 1, 2, 3, 4, 5, 6, 7, 8, 9], [8])])
def kingpinlaw08_LeagueGives.B3 : List Nat := [0, 1, 0, 0, 15, 31, 63, 127, 127, 255, 1023]
theorem kingpinlaw08_LeagueGives.tab3 : rtab .any (opsOf Try.f7 3) = kingpinlaw08_LeagueGives.T3 := by kernel_rfl
theorem kingpinlaw08_LeagueGives.bits3 : waitsOk kingpinlaw08_LeagueGives.T3.2 kingpinlaw08_LeagueGives.B3 = true := by kernel_rfl
set_option maxHeartbeats 8000000 in
set_option maxRecDepth 100000 in
theorem kingpinlaw08_LeagueGives.calls (k : Nat) (a0_0 : Int) (A0_1 : Option Addr) (c0_1 : Nat) (l0_1 : List (S70)) (A1 : Option Addr) (c1 : Nat) (l1 : List Int) (r : Bool) (w : World) (hr0_1 : Kd.C k70 w A0_1 l0_1.length l0_1) (hc0_1 : l0_1.length ≤ c0_1) (hr1 : Kd.C (Kd.int .u16) w A1 l1.length l1) (hc1 : l1.length ≤ c1) (h : kingpinlaw08_LeagueGives.f k a0_0 l0_1 l1 = some r) :
  Calls Try.prog 7 #[.agg #[.int .i64 a0_0, .slice A0_1 l0_1.length c0_1], .slice A1 l1.length c1] w fun e w' => e = .returned (.bool r) ∧ Below w.heap.size w w' := by
 have hu24 := Try.underlying24
 have HR0_1 := Aside0.mk hr0_1
 have HC0_1 := Aside0.mk hc0_1
 clear hr0_1 hc0_1
 have HR1 := Aside0.mk hr1
 have HC1 := Aside0.mk hc1
 clear hr1 hc1
 have HB := Aside0.mk (Below.refl w.heap.size w)
 have H : ((kingpinlaw08_ready.f k a0_0 l0_1).bind fun t410 => (if t410 = true then ((kingpinlaw08_League.f k a0_0 l0_1).bind fun bt412 => ((kingpinlaw08_ended.f k a0_0 l0_1 l1).bind fun t416 => ((league_After.f bt412.1 bt412.2 t416).bind fun bt419 => (kingpinlaw08_LeagueGives.l0 k bt419.1 bt419.2 0 0 a0_0 l0_1)))) else ((kingpinlaw08_awake.f).bind fun t411 => (some t411)))) = some r := h
 clear h
 replace H := Option.bind_eq_some_iff.mp H
 obtain ⟨t410, A30, H⟩ := H
 replace H : (if t410 = true then ((kingpinlaw08_League.f k a0_0 l0_1).bind fun bt412 => ((kingpinlaw08_ended.f k a0_0 l0_1 l1).bind fun t416 => ((league_After.f bt412.1 bt412.2 t416).bind fun bt419 => (kingpinlaw08_LeagueGives.l0 k bt419.1 bt419.2 0 0 a0_0 l0_1)))) else ((kingpinlaw08_awake.f).bind fun t411 => (some t411))) = some r := H
 have A3 := Aside0.mk A30
 clear A30
 by_cases c4 : t410 = true
 ·
  subst c4
  have H1 : ((kingpinlaw08_League.f k a0_0 l0_1).bind fun bt412 => ((kingpinlaw08_ended.f k a0_0 l0_1 l1).bind fun t416 => ((league_After.f bt412.1 bt412.2 t416).bind fun bt419 => (kingpinlaw08_LeagueGives.l0 k bt419.1 bt419.2 0 0 a0_0 l0_1)))) = some r := by rw [if_pos rfl] at H; exact H
  clear H
  have H := H1
  clear H1
  replace H := Option.bind_eq_some_iff.mp H
  obtain ⟨⟨t412, t413⟩, A50, H⟩ := H
  replace H : ((kingpinlaw08_ended.f k a0_0 l0_1 l1).bind fun t416 => ((league_After.f t412 t413 t416).bind fun bt419 => (kingpinlaw08_LeagueGives.l0 k bt419.1 bt419.2 0 0 a0_0 l0_1))) = some r := H
  have A5 := Aside0.mk A50
  clear A50
  replace H := Option.bind_eq_some_iff.mp H
  obtain ⟨t416, A60, H⟩ := H
  replace H : ((league_After.f t412 t413 t416).bind fun bt419 => (kingpinlaw08_LeagueGives.l0 k bt419.1 bt419.2 0 0 a0_0 l0_1)) = some r := H
  have A6 := Aside0.mk A60
  clear A60
  replace H := Option.bind_eq_some_iff.mp H
  obtain ⟨⟨t419, t422⟩, A70, H⟩ := H
  replace H : (kingpinlaw08_LeagueGives.l0 k t419 t422 0 0 a0_0 l0_1) = some r := H
  have A7 := Aside0.mk A70
  clear A70
  have H' := Aside0.mk H
  clear H
  go_enter Try.func7, Try.ntmps7
  try go_wp2_with (first | ((with_reducible refine gate_dst (N := 2) rfl ?_); (try (refine gate_guard (by rfl) ?_; dsimp only)); refine box_event ?hg (N := 2) ?hd (cs := #[.int .i64 a0_0, .slice A0_1 l0_1.length c0_1]) (t := 24) ?hr ?_; (case hd => rfl); (case hg => rfl); (case hr => first | (go_simp; done) | (go_simp; rfl)); intro gb409 hg w8 hbox hb; have n0_ := Aside0.mk (below_step (by repeat (first | (with_reducible first | exact HB.out | apply below_alloc | apply pw_below_drewN | apply below_drew1) | exact HB.out)) hb); have n1_ := Aside0.mk (hbox); have n2_ := Aside0.mk ((by rw [hg]; exact (below_size (by repeat (first | (with_reducible first | exact HB.out | apply below_alloc | apply pw_below_drewN | apply below_drew1) | exact HB.out))) : w.heap.size ≤ gb409)); have n3_ := Aside0.mk ((by rw [hg]; exact (below_size (by repeat (first | (with_reducible first | exact HB.out | apply below_alloc | apply pw_below_drewN | apply below_drew1) | exact HB.out))) : w.heap.size ≤ gb409)); clear HB; have HB := n0_; have BK409 := n1_; have GW409 := n2_; have GE409 := n3_; clear n0_ n1_ n2_ n3_; clear hb hbox hg; have hcz9_0 : w8.cell? ⟨gb409, 0, none⟩ = some (.int .i64 a0_0) := (blk_cell BK409.out 0).trans rfl; have hcz9_1 : w8.cell? ⟨gb409, 1, none⟩ = some (.slice A0_1 l0_1.length c0_1) := (blk_cell BK409.out 1).trans rfl; have hfz9_0 := blk_frozen BK409.out 0; have hfz9_1 := blk_frozen BK409.out 1) | ((with_reducible refine gate_callee (f := 34) rfl ?_); refine goesL_ (some 10) rfl rfl Try.func34 (by kernel_rfl) rfl #[.agg #[.int .i64 a0_0, .slice A0_1 l0_1.length c0_1]] rfl (by (try simp only [List.map_toArray, List.map_cons, List.map_nil]); first | done | rfl | (simp only [List.length_drop, List.length_take]; rfl)) ?_; (with_reducible refine (kingpinlaw08_ready.calls k a0_0 _ _ l0_1 true _ ?side1 ?side2 A3.out).mono ?_); (case side1 => repeat (first | exact (Kd.C_below HR0_1.out HB.out) | (with_reducible refine Kd.C_alloc ?_ _) | (with_reducible refine Kd.C_drewN ?_ _) | (with_reducible refine Kd.C_drew ?_))); (case side2 => exact HC0_1.out); rintro e w10 ⟨rfl, hb⟩; refine ⟨_, rfl, ?_⟩; have n0_ := Aside0.mk (blk_below (g := gb409) (o := .cells #[.int .i64 a0_0, .slice A0_1 l0_1.length c0_1] 24 (0, 0)) (by (with_reducible repeat (first | refine blk_drewN ?_ _ | refine blk_drew ?_ | refine blk_alloc ?_ _)); exact BK409.out) hb); have n1_ := Aside0.mk (below_step (by repeat (first | (with_reducible first | exact HB.out | apply below_alloc | apply pw_below_drewN | apply below_drew1 | refine below_set ?_ GE409.out) | exact HB.out)) hb); clear BK409; clear HB; have BK409 := n0_; have HB := n1_; clear n0_ n1_; (try clear hb); (try clear hb2); (try clear hk); (try clear hi)))
  have n0_ := Aside0.mk (blk_drew BK409.out)
  have n1_ := Aside0.mk (below_drew1 HB.out)
  clear BK409
  clear HB
  have BK409 := n0_
  have HB := n1_
  clear n0_ n1_
  refine start_ (n := 11) (S := fun w' => w'.cell? ⟨gb409, 0, none⟩ = some (.int .i64 a0_0) ∧ w'.cell? ⟨gb409, 1, none⟩ = some (.slice A0_1 l0_1.length c0_1)) (ds := []) #[false, false, false, false, false, false, false, false, false, false, false] (by kernel_rfl) rfl rfl ⟨(blk_cell BK409.out 0).trans rfl, (blk_cell BK409.out 1).trans rfl⟩ (fun hHeld => ?_); refine with_tabW kingpinlaw08_LeagueGives.tab3 kingpinlaw08_LeagueGives.bits3 (fun HT_ HW_ => ?_)
  generalize w10.drew = w11 at BK409 HB hHeld ⊢
  refine pure_ (i := 3) (N := some 17) (v := ?_) (a' := ?_) #[false, false, false, true, false, false, false, false, false, false, false] rfl rfl (any_of HT_.out (by kernel_rfl)) (fun _ _ _ h => h) (Or.inl ⟨by rfl, ?_⟩) ?_ ?_
  rotate_left
  ·
   intro w'
   go_simp
   with_reducible rfl
  rotate_left
  ·
   simp only [Act.put, List.setIfInBounds_toArray, List.set_cons_zero, List.set_cons_succ, i64_w, i32_w]
   rfl
  refine take_ (i := 0) (N := some 14) (v := ?_) (a' := ?_) #[true, false, false, true, false, false, false, false, false, false, false] rfl rfl (take_ofW HT_.out HW_.out (by kernel_rfl)) (fun _ _ _ h => h) (Or.inl ⟨by rfl, ?_⟩) hHeld ?_ ?_
  rotate_left
  ·
   rintro w' ⟨s0, s1⟩
   go_simp
   with_reducible rfl
  rotate_left
  ·
   simp only [Act.put, List.setIfInBounds_toArray, List.set_cons_zero, List.set_cons_succ, i64_w, i32_w]
   rfl
  refine take_ (i := 2) (N := some 16) (v := ?_) (a' := ?_) #[true, false, true, true, false, false, false, false, false, false, false] rfl rfl (take_ofW HT_.out HW_.out (by kernel_rfl)) (fun _ _ _ h => h) (Or.inl ⟨by rfl, ?_⟩) hHeld ?_ ?_
  rotate_left
  ·
   rintro w' ⟨s0, s1⟩
   go_simp
   with_reducible rfl
  rotate_left
  ·
   simp only [Act.put, List.setIfInBounds_toArray, List.set_cons_zero, List.set_cons_succ, i64_w, i32_w]
   rfl
  refine one_ (i := 1) (N := some 15) #[true, true, true, true, false, false, false, false, false, false, false] rfl rfl (one_of HT_.out (by kernel_rfl)) (by decide) (fun K hK => ?_)
  refine goes_ Try.func18 (by kernel_rfl) rfl #[.agg #[.int .i64 a0_0, .slice A0_1 l0_1.length c0_1]] (by rfl) rfl rfl (by (try simp only [List.map_toArray, List.map_cons, List.map_nil]); first | done | rfl | (simp only [List.length_drop, List.length_take]; rfl)) ?_
  with_reducible refine (kingpinlaw08_League.calls k a0_0 _ _ l0_1 t412 t413 _ ?side1 ?side2 A5.out).mono ?_
  (case side1 => repeat (first | exact (Kd.C_below HR0_1.out HB.out) | (with_reducible refine Kd.C_alloc ?_ _) | (with_reducible refine Kd.C_drewN ?_ _) | (with_reducible refine Kd.C_drew ?_)))
  (case side2 => exact HC0_1.out)
  rintro e w12 ⟨v414, rfl, ho0, hb⟩
  refine ⟨_, rfl, ?_⟩
  have n0_ := Aside0.mk (Kd.R_lower ho0 (below_size (by repeat (first | (with_reducible first | exact HB.out | apply below_alloc | apply pw_below_drewN | apply below_drew1 | refine below_set ?_ GE409.out) | exact HB.out))))
  have n1_ := Aside0.mk (blk_below (g := gb409) (o := .cells #[.int .i64 a0_0, .slice A0_1 l0_1.length c0_1] 24 (0, 0)) (by (with_reducible repeat (first | refine blk_drewN ?_ _ | refine blk_drew ?_ | refine blk_alloc ?_ _)); exact BK409.out) hb)
  have n2_ := Aside0.mk (below_step (by repeat (first | (with_reducible first | exact HB.out | apply below_alloc | apply pw_below_drewN | apply below_drew1 | refine below_set ?_ GE409.out) | exact HB.out)) hb)
  clear BK409
  clear HB
  have HO415 := n0_
  have BK409 := n1_
  have HB := n2_
  clear n0_ n1_ n2_
  (try clear hb)
  (try clear hb2)
  (try clear hk)
  (try clear hi)
  (try clear ho0)
  refine hK.out _ _ ⟨(blk_cell BK409.out 0).trans rfl, (blk_cell BK409.out 1).trans rfl⟩ (fun hHeld => ?_)
  clear hK K
  refine norm_ (a' := ?_) ?_ ?_
  rotate_left
  ·
   show Act.put _ (some 15) _ = _
   simp only [Act.put, List.setIfInBounds_toArray, List.set_cons_zero, List.set_cons_succ, i64_w, i32_w]
   rfl
  refine one_ (i := 4) (N := some 18) #[true, true, true, true, true, false, false, false, false, false, false] rfl rfl (one_of HT_.out (by kernel_rfl)) (by decide) (fun K hK => ?_)
  refine goes_ Try.func36 (by kernel_rfl) rfl #[.agg #[.int .i64 a0_0, .slice A0_1 l0_1.length c0_1], .slice A1 l1.length c1] (by rfl) rfl rfl (by (try simp only [List.map_toArray, List.map_cons, List.map_nil]); first | done | rfl | (simp only [List.length_drop, List.length_take]; rfl)) ?_
  with_reducible refine (kingpinlaw08_ended.calls k a0_0 _ _ l0_1 _ _ l1 t416 _ ?side1 ?side2 ?side3 ?side4 A6.out).mono ?_
  (case side1 => repeat (first | exact (Kd.C_below HR0_1.out HB.out) | (with_reducible refine Kd.C_alloc ?_ _) | (with_reducible refine Kd.C_drewN ?_ _) | (with_reducible refine Kd.C_drew ?_)))
  (case side2 => exact HC0_1.out)
  (case side3 => repeat (first | exact (Kd.C_below HR1.out HB.out) | (with_reducible refine Kd.C_alloc ?_ _) | (with_reducible refine Kd.C_drewN ?_ _) | (with_reducible refine Kd.C_drew ?_)))
  (case side4 => exact HC1.out)
  rintro e w13 ⟨v417, rfl, ho0, hb⟩
  refine ⟨_, rfl, ?_⟩
  have n0_ := Aside0.mk (Kd.R_below (by (with_reducible repeat (first | apply Kd.R_alloc | apply Kd.R_drewN | apply Kd.R_drew)); exact HO415.out) hb)
  have n1_ := Aside0.mk (Kd.R_lower ho0 (below_size (by repeat (first | (with_reducible first | exact HB.out | apply below_alloc | apply pw_below_drewN | apply below_drew1 | refine below_set ?_ GE409.out) | exact HB.out))))
  have n2_ := Aside0.mk (blk_below (g := gb409) (o := .cells #[.int .i64 a0_0, .slice A0_1 l0_1.length c0_1] 24 (0, 0)) (by (with_reducible repeat (first | refine blk_drewN ?_ _ | refine blk_drew ?_ | refine blk_alloc ?_ _)); exact BK409.out) hb)
  have n3_ := Aside0.mk (below_step (by repeat (first | (with_reducible first | exact HB.out | apply below_alloc | apply pw_below_drewN | apply below_drew1 | refine below_set ?_ GE409.out) | exact HB.out)) hb)
  clear HO415
  clear BK409
  clear HB
  have HO415 := n0_
  have HO418 := n1_
  have BK409 := n2_
  have HB := n3_
  clear n0_ n1_ n2_ n3_
  (try clear hb)
  (try clear hb2)
  (try clear hk)
  (try clear hi)
  (try clear ho0)
  obtain ⟨Ao14, co14, eo14⟩ := Kd.R_slice HO415.out
  (first | subst eo14 | (injection eo14 with f1_ f2_ f3_; have f4_ := f1_.symm; have f5_ := f3_.symm; clear f1_ f2_ f3_; subst f4_; subst f5_))
  obtain ⟨Ao15, co15, eo15⟩ := Kd.R_slice HO418.out
  (first | subst eo15 | (injection eo15 with f1_ f2_ f3_; have f4_ := f1_.symm; have f5_ := f3_.symm; clear f1_ f2_ f3_; subst f4_; subst f5_))
  refine hK.out _ _ ⟨(blk_cell BK409.out 0).trans rfl, (blk_cell BK409.out 1).trans rfl⟩ (fun hHeld => ?_)
  clear hK K
  refine norm_ (a' := ?_) ?_ ?_
  rotate_left
  ·
   show Act.put _ (some 18) _ = _
   simp only [Act.put, List.setIfInBounds_toArray, List.set_cons_zero, List.set_cons_succ, i64_w, i32_w]
   rfl
  refine one_ (i := 5) (N := some 19) #[true, true, true, true, true, true, false, false, false, false, false] rfl rfl (one_of HT_.out (by kernel_rfl)) (by decide) (fun K hK => ?_)
  refine goes_ Try.func25 (by kernel_rfl) rfl #[.agg #[.int .i64 t412, .slice Ao14 t413.length co14], .slice Ao15 t416.length co15] (by rfl) rfl rfl (by (try simp only [List.map_toArray, List.map_cons, List.map_nil]); first | done | rfl | (simp only [List.length_drop, List.length_take]; rfl)) ?_
  with_reducible refine (league_After.calls t412 _ _ t413 _ _ t416 t419 t422 _ ?side1 ?side2 ?side3 ?side4 A7.out).mono ?_
  (case side1 => repeat (first | exact (Kd.R_reads' HO415.out).2.2 | (with_reducible refine Kd.C_alloc ?_ _) | (with_reducible refine Kd.C_drewN ?_ _) | (with_reducible refine Kd.C_drew ?_)))
  (case side2 => exact (Kd.R_reads' HO415.out).2.1)
  (case side3 => repeat (first | exact (Kd.R_reads' HO418.out).2.2 | (with_reducible refine Kd.C_alloc ?_ _) | (with_reducible refine Kd.C_drewN ?_ _) | (with_reducible refine Kd.C_drew ?_)))
  (case side4 => exact (Kd.R_reads' HO418.out).2.1)
  rintro e w16 ⟨v420, rfl, ho0, hb⟩
  refine ⟨_, rfl, ?_⟩
  have n0_ := Aside0.mk (Kd.R_below (by (with_reducible repeat (first | apply Kd.R_alloc | apply Kd.R_drewN | apply Kd.R_drew)); exact HO415.out) hb)
  have n1_ := Aside0.mk (Kd.R_below (by (with_reducible repeat (first | apply Kd.R_alloc | apply Kd.R_drewN | apply Kd.R_drew)); exact HO418.out) hb)
  have n2_ := Aside0.mk (Kd.R_lower ho0 (below_size (by repeat (first | (with_reducible first | exact HB.out | apply below_alloc | apply pw_below_drewN | apply below_drew1 | refine below_set ?_ GE409.out) | exact HB.out))))
  have n3_ := Aside0.mk (blk_below (g := gb409) (o := .cells #[.int .i64 a0_0, .slice A0_1 l0_1.length c0_1] 24 (0, 0)) (by (with_reducible repeat (first | refine blk_drewN ?_ _ | refine blk_drew ?_ | refine blk_alloc ?_ _)); exact BK409.out) hb)
  have n4_ := Aside0.mk (below_step (by repeat (first | (with_reducible first | exact HB.out | apply below_alloc | apply pw_below_drewN | apply below_drew1 | refine below_set ?_ GE409.out) | exact HB.out)) hb)
  clear HO415
  clear HO418
  clear BK409
  clear HB
  have HO415 := n0_
  have HO418 := n1_
  have HO421 := n2_
  have BK409 := n3_
  have HB := n4_
  clear n0_ n1_ n2_ n3_ n4_
  (try clear hb)
  (try clear hb2)
  (try clear hk)
  (try clear hi)
  (try clear ho0)
  refine hK.out _ _ ⟨(blk_cell BK409.out 0).trans rfl, (blk_cell BK409.out 1).trans rfl⟩ (fun hHeld => ?_)
  clear hK K
  refine norm_ (a' := ?_) ?_ ?_
  rotate_left
  ·
   show Act.put _ (some 19) _ = _
   simp only [Act.put, List.setIfInBounds_toArray, List.set_cons_zero, List.set_cons_succ, i64_w, i32_w]
   rfl
  refine pure_ (i := 6) (N := some 13) (v := ?_) (a' := ?_) #[true, true, true, true, true, true, true, false, false, false, false] rfl rfl (any_of HT_.out (by kernel_rfl)) (fun _ _ _ h => h) (Or.inl ⟨by rfl, ?_⟩) ?_ ?_
  rotate_left
  ·
   intro w'
   go_simp
   with_reducible rfl
  rotate_left
  ·
   simp only [Act.put, List.setIfInBounds_toArray, List.set_cons_zero, List.set_cons_succ, i64_w, i32_w]
   rfl
  refine pure_ (i := 7) (N := some 20) (v := ?_) (a' := ?_) #[true, true, true, true, true, true, true, true, false, false, false] rfl rfl (any_of HT_.out (by kernel_rfl)) (fun _ _ _ h => h) (Or.inl ⟨by rfl, ?_⟩) ?_ ?_
  rotate_left
  ·
   intro w'
   go_simp
   with_reducible rfl
  rotate_left
  ·
   simp only [Act.put, List.setIfInBounds_toArray, List.set_cons_zero, List.set_cons_succ, i64_w, i32_w]
   rfl
  refine pure_ (i := 8) (N := some 21) (v := ?_) (a' := ?_) #[true, true, true, true, true, true, true, true, true, false, false] rfl rfl (any_of HT_.out (by kernel_rfl)) (fun _ _ _ h => h) (Or.inl ⟨by rfl, ?_⟩) ?_ ?_
  rotate_left
  ·
   intro w'
   go_simp
   with_reducible rfl
  rotate_left
  ·
   simp only [Act.put, List.setIfInBounds_toArray, List.set_cons_zero, List.set_cons_succ, i64_w, i32_w]
   rfl
  refine pure_ (i := 9) (N := some 5) (v := ?_) (a' := ?_) #[true, true, true, true, true, true, true, true, true, true, false] rfl rfl (any_of HT_.out (by kernel_rfl)) (fun _ _ _ h => h) (Or.inl ⟨by rfl, ?_⟩) ?_ ?_
  rotate_left
  ·
   intro w'
   go_simp
   with_reducible rfl
  rotate_left
  ·
   simp only [Act.put, List.setIfInBounds_toArray, List.set_cons_zero, List.set_cons_succ, i64_w, i32_w]
   rfl
  refine pure_ (i := 10) (N := some 6) (v := ?_) (a' := ?_) #[true, true, true, true, true, true, true, true, true, true, true] rfl rfl (any_of HT_.out (by kernel_rfl)) (fun _ _ _ h => h) (Or.inl ⟨by rfl, ?_⟩) ?_ ?_
  rotate_left
  ·
   intro w'
   go_simp
   with_reducible rfl
  rotate_left
  ·
   simp only [Act.put, List.setIfInBounds_toArray, List.set_cons_zero, List.set_cons_succ, i64_w, i32_w]
   rfl
  refine done_ (done_of HT_.out (by kernel_rfl)) ?_
  try go_wp2
  go_loopg [7, 8] k (fun kq v7 v8 w' => ∃ (x7_1 : Int) (x8_1 : Int), v7 = .int .i64 x7_1 ∧ v8 = .int .i64 x8_1 ∧ Aside0 (kingpinlaw08_LeagueGives.l0 kq t419 t422 x7_1 x8_1 a0_0 l0_1 = some r) ∧ Aside0 (kq ≤ k) ∧ Aside0 (Kd.R (Kd.int .i64) 3 w' w.heap.size (fun _ => True) v420 t419) ∧ Aside0 (w'.heap[gb409]? = some (.cells #[.int .i64 a0_0, (.slice A0_1 l0_1.length c0_1)] 24 (0, 0))) ∧ Aside0 (Below w.heap.size w w'))
  case atStart => exact ⟨(0), (0), (by first | rfl | (simp; done) | (simp [*]; done)), (by first | rfl | (simp; done) | (simp [*]; done)), H', ⟨Nat.le_refl _⟩, ⟨by (with_reducible repeat (first | apply Kd.R_alloc | apply Kd.R_drewN | apply Kd.R_drew)); exact HO421.out⟩, ⟨by (with_reducible repeat (first | refine blk_drewN ?_ _ | refine blk_drew ?_ | refine blk_alloc ?_ _)); exact BK409.out⟩, ⟨by repeat (first | (with_reducible first | exact HB.out | apply below_alloc | apply pw_below_drewN | apply below_drew1 | refine below_set ?_ GE409.out) | exact HB.out)⟩⟩
  case round =>
   clear H'
   try clear c1
   try clear c2
   try clear p2
   try clear c3
   try clear c4
   try clear c7
   try clear hcz9_0
   try clear hcz9_1
   try clear hfz9_0
   try clear hfz9_1
   obtain ⟨x7_1, x8_1, rfl, rfl, HA, HK1, HO_5, BK409, HB⟩ := hrel
   cases gk with
   | zero => exact absurd HA.out (by simp [kingpinlaw08_LeagueGives.l0])
   | succ k1 =>
    have H := HA.out
    clear HA
    simp only [kingpinlaw08_LeagueGives.l0] at H
    by_cases c17 : x8_1 < (t419.length : Int)
    ·
     rw [if_pos c17] at H
     have c17b0 : decide (x8_1 < (t419.length : Int)) = true := decide_eq_true c17
     clear c17
     by_cases c18 : 0 ≤ x8_1
     ·
      rw [if_pos c18] at H
      have c18b0 : decide (0 ≤ x8_1) = true := decide_eq_true c18
      clear c18
      by_cases c19 : (rd t419 x8_1) < 0
      ·
       rw [if_pos c19] at H
       have c19b0 : decide ((rd t419 x8_1) < 0) = true := decide_eq_true c19
       clear c19
       obtain rfl := Option.some.inj H
       obtain ⟨Ao20, co20, eo20⟩ := Kd.R_slice HO_5.out
       subst eo20
       have p423 : 0 ≤ (x8_1 : Int) := of_decide_eq_true (by first | (with_reducible assumption) | assumption)
       have q423 : x8_1 < (t419.length : Int) := of_decide_eq_true (by first | (with_reducible assumption) | assumption)
       obtain ⟨ad423, e423, hx423_0⟩ := Kd.at_int (Kd.R_reads' HO_5.out).2.2 x8_1 p423 q423
       cases e423
       replace p423 := eq_true p423
       replace q423 := eq_true q423
       go_wp2
       go_ret
       exact ⟨by first | rfl | (simp [errW_none, errW_some] <;> rfl) | (simp [*, errW_none, errW_some] <;> rfl), by repeat (first | (with_reducible first | exact HB.out | apply below_alloc | apply pw_below_drewN | apply below_drew1 | refine below_set ?_ GE409.out) | exact HB.out)⟩
      ·
       rw [if_neg c19] at H
       have c19b0 : decide ((rd t419 x8_1) < 0) = false := decide_eq_false c19
       clear c19
       have H' := Aside0.mk H
       clear H
       obtain ⟨Ao21, co21, eo21⟩ := Kd.R_slice HO_5.out
       subst eo21
       have p423 : 0 ≤ (x8_1 : Int) := of_decide_eq_true (by first | (with_reducible assumption) | assumption)
       have q423 : x8_1 < (t419.length : Int) := of_decide_eq_true (by first | (with_reducible assumption) | assumption)
       obtain ⟨ad423, e423, hx423_0⟩ := Kd.at_int (Kd.R_reads' HO_5.out).2.2 x8_1 p423 q423
       cases e423
       replace p423 := eq_true p423
       replace q423 := eq_true q423
       have p424 : 0 ≤ (x8_1 : Int) := of_decide_eq_true (by first | (with_reducible assumption) | assumption)
       have q424 : x8_1 < (t419.length : Int) := of_decide_eq_true (by first | (with_reducible assumption) | assumption)
       obtain ⟨ad424, e424, hx424_0⟩ := Kd.at_int (Kd.R_reads' HO_5.out).2.2 x8_1 p424 q424
       obtain rfl : ad423 = ad424 := (by injection e424)
       replace p424 := eq_true p424
       replace q424 := eq_true q424
       go_wp2
       go_roundg k1
       case measure => have := HK1.out; omega
       case rel => exact ⟨(wrap64 (x7_1 + (rd t419 x8_1))), (wrap64 (x8_1 + 1)), (by first | rfl | (simp; done) | (simp [*]; done)), (by first | rfl | (simp; done) | (simp [*]; done)), H', ⟨by have := HK1.out; omega⟩, ⟨by (with_reducible repeat (first | apply Kd.R_alloc | apply Kd.R_drewN | apply Kd.R_drew)); exact HO_5.out⟩, ⟨by (with_reducible repeat (first | refine blk_drewN ?_ _ | refine blk_drew ?_ | refine blk_alloc ?_ _)); exact BK409.out⟩, ⟨by repeat (first | (with_reducible first | exact HB.out | apply below_alloc | apply pw_below_drewN | apply below_drew1 | refine below_set ?_ GE409.out) | exact HB.out)⟩⟩
     ·
      rw [if_neg c18] at H
      exact absurd H (by simp)
    ·
     rw [if_neg c17] at H
     have c17b0 : decide (x8_1 < (t419.length : Int)) = false := decide_eq_false c17
     clear c17
     by_cases c22 : t422 = 0
     ·
      rw [if_pos c22] at H
      have c22b0 : (t422 == 0) = true := beq_iff_eq.mpr c22
      have c22b1 : (t422 != 0) = false := bne_eq_false_iff_eq.mpr c22
      clear c22
      by_cases c23 : (t419.length : Int) = a0_0
      ·
       rw [if_pos c23] at H
       have c23b0 : ((t419.length : Int) == a0_0) = true := beq_iff_eq.mpr c23
       have c23b1 : ((t419.length : Int) != a0_0) = false := bne_eq_false_iff_eq.mpr c23
       clear c23
       by_cases c24 : x7_1 = (wrap64 (2 * (l0_1.length : Int)))
       ·
        rw [if_pos c24] at H
        have c24b0 : (x7_1 == (wrap64 (2 * (l0_1.length : Int)))) = true := beq_iff_eq.mpr c24
        have c24b1 : (x7_1 != (wrap64 (2 * (l0_1.length : Int)))) = false := bne_eq_false_iff_eq.mpr c24
        clear c24
        replace H := Option.bind_eq_some_iff.mp H
        obtain ⟨t425, A250, H⟩ := H
        replace H : (some t425) = some r := H
        have A25 := Aside0.mk A250
        clear A250
        obtain rfl := Option.some.inj H
        obtain ⟨Ao26, co26, eo26⟩ := Kd.R_slice HO_5.out
        subst eo26
        have hcz27_0 : wr.cell? ⟨gb409, 0, none⟩ = some (.int .i64 a0_0) := (blk_cell BK409.out 0).trans rfl
        have hcz27_1 : wr.cell? ⟨gb409, 1, none⟩ = some (.slice A0_1 l0_1.length c0_1) := (blk_cell BK409.out 1).trans rfl
        have hfz27_0 := blk_frozen BK409.out 0
        have hfz27_1 := blk_frozen BK409.out 1
        go_wp2_with (first | (go_at_call 16; (with_reducible refine (kingpinlaw08_awake.calls  t425 _ A25.out).mono ?_); rintro e w28 ⟨rfl, hb⟩; have n0_ := Aside0.mk (Kd.R_below (by (with_reducible repeat (first | apply Kd.R_alloc | apply Kd.R_drewN | apply Kd.R_drew)); exact HO_5.out) hb); have n1_ := Aside0.mk (blk_below (g := gb409) (o := .cells #[.int .i64 a0_0, .slice A0_1 l0_1.length c0_1] 24 (0, 0)) (by (with_reducible repeat (first | refine blk_drewN ?_ _ | refine blk_drew ?_ | refine blk_alloc ?_ _)); exact BK409.out) hb); have n2_ := Aside0.mk (below_step (by repeat (first | (with_reducible first | exact HB.out | apply below_alloc | apply pw_below_drewN | apply below_drew1 | refine below_set ?_ GE409.out) | exact HB.out)) hb); clear HO_5; clear BK409; clear HB; have HO_5 := n0_; have BK409 := n1_; have HB := n2_; clear n0_ n1_ n2_; (try clear hb); (try clear hb2); (try clear hk); (try clear hi)))
        go_ret
        exact ⟨by first | rfl | (simp [errW_none, errW_some] <;> rfl) | (simp [*, errW_none, errW_some] <;> rfl), by repeat (first | (with_reducible first | exact HB.out | apply below_alloc | apply pw_below_drewN | apply below_drew1 | refine below_set ?_ GE409.out) | exact HB.out)⟩
       ·
        rw [if_neg c24] at H
        have c24b0 : (x7_1 == (wrap64 (2 * (l0_1.length : Int)))) = false := beq_eq_false_iff_ne.mpr c24
        have c24b1 : (x7_1 != (wrap64 (2 * (l0_1.length : Int)))) = true := bne_iff_ne.mpr c24
        obtain rfl := Option.some.inj H
        obtain ⟨Ao29, co29, eo29⟩ := Kd.R_slice HO_5.out
        subst eo29
        have hcz30_0 : wr.cell? ⟨gb409, 0, none⟩ = some (.int .i64 a0_0) := (blk_cell BK409.out 0).trans rfl
        have hcz30_1 : wr.cell? ⟨gb409, 1, none⟩ = some (.slice A0_1 l0_1.length c0_1) := (blk_cell BK409.out 1).trans rfl
        have hfz30_0 := blk_frozen BK409.out 0
        have hfz30_1 := blk_frozen BK409.out 1
        go_wp2
        go_ret
        exact ⟨by first | rfl | (simp [errW_none, errW_some] <;> rfl) | (simp [*, errW_none, errW_some] <;> rfl), by repeat (first | (with_reducible first | exact HB.out | apply below_alloc | apply pw_below_drewN | apply below_drew1 | refine below_set ?_ GE409.out) | exact HB.out)⟩
      ·
       rw [if_neg c23] at H
       have c23b0 : ((t419.length : Int) == a0_0) = false := beq_eq_false_iff_ne.mpr c23
       have c23b1 : ((t419.length : Int) != a0_0) = true := bne_iff_ne.mpr c23
       obtain rfl := Option.some.inj H
       obtain ⟨Ao31, co31, eo31⟩ := Kd.R_slice HO_5.out
       subst eo31
       have hcz32_0 : wr.cell? ⟨gb409, 0, none⟩ = some (.int .i64 a0_0) := (blk_cell BK409.out 0).trans rfl
       have hcz32_1 : wr.cell? ⟨gb409, 1, none⟩ = some (.slice A0_1 l0_1.length c0_1) := (blk_cell BK409.out 1).trans rfl
       have hfz32_0 := blk_frozen BK409.out 0
       have hfz32_1 := blk_frozen BK409.out 1
       go_wp2
       go_ret
       exact ⟨by first | rfl | (simp [errW_none, errW_some] <;> rfl) | (simp [*, errW_none, errW_some] <;> rfl), by repeat (first | (with_reducible first | exact HB.out | apply below_alloc | apply pw_below_drewN | apply below_drew1 | refine below_set ?_ GE409.out) | exact HB.out)⟩
     ·
      rw [if_neg c22] at H
      have c22b0 : (t422 == 0) = false := beq_eq_false_iff_ne.mpr c22
      have c22b1 : (t422 != 0) = true := bne_iff_ne.mpr c22
      obtain rfl := Option.some.inj H
      obtain ⟨Ao33, co33, eo33⟩ := Kd.R_slice HO_5.out
      subst eo33
      go_wp2
      go_ret
      exact ⟨by first | rfl | (simp [errW_none, errW_some] <;> rfl) | (simp [*, errW_none, errW_some] <;> rfl), by repeat (first | (with_reducible first | exact HB.out | apply below_alloc | apply pw_below_drewN | apply below_drew1 | refine below_set ?_ GE409.out) | exact HB.out)⟩
 ·
  replace c4 := Bool.eq_false_iff.mpr c4
  subst c4
  have H1 : ((kingpinlaw08_awake.f).bind fun t411 => (some t411)) = some r := by rw [if_neg (show ¬ (false = true) by decide)] at H; exact H
  clear H
  have H := H1
  clear H1
  replace H := Option.bind_eq_some_iff.mp H
  obtain ⟨t411, A340, H⟩ := H
  replace H : (some t411) = some r := H
  have A34 := Aside0.mk A340
  clear A340
  obtain rfl := Option.some.inj H
  go_enter Try.func7, Try.ntmps7
  go_wp2_with (first | ((with_reducible refine gate_dst (N := 2) rfl ?_); (try (refine gate_guard (by rfl) ?_; dsimp only)); refine box_event ?hg (N := 2) ?hd (cs := #[.int .i64 a0_0, .slice A0_1 l0_1.length c0_1]) (t := 24) ?hr ?_; (case hd => rfl); (case hg => rfl); (case hr => first | (go_simp; done) | (go_simp; rfl)); intro gb409 hg w35 hbox hb; have n0_ := Aside0.mk (below_step (by repeat (first | (with_reducible first | exact HB.out | apply below_alloc | apply pw_below_drewN | apply below_drew1) | exact HB.out)) hb); have n1_ := Aside0.mk (hbox); have n2_ := Aside0.mk ((by rw [hg]; exact (below_size (by repeat (first | (with_reducible first | exact HB.out | apply below_alloc | apply pw_below_drewN | apply below_drew1) | exact HB.out))) : w.heap.size ≤ gb409)); have n3_ := Aside0.mk ((by rw [hg]; exact (below_size (by repeat (first | (with_reducible first | exact HB.out | apply below_alloc | apply pw_below_drewN | apply below_drew1) | exact HB.out))) : w.heap.size ≤ gb409)); clear HB; have HB := n0_; have BK409 := n1_; have GW409 := n2_; have GE409 := n3_; clear n0_ n1_ n2_ n3_; clear hb hbox hg; have hcz36_0 : w35.cell? ⟨gb409, 0, none⟩ = some (.int .i64 a0_0) := (blk_cell BK409.out 0).trans rfl; have hcz36_1 : w35.cell? ⟨gb409, 1, none⟩ = some (.slice A0_1 l0_1.length c0_1) := (blk_cell BK409.out 1).trans rfl; have hfz36_0 := blk_frozen BK409.out 0; have hfz36_1 := blk_frozen BK409.out 1) | ((with_reducible refine gate_callee (f := 34) rfl ?_); refine goesL_ (some 10) rfl rfl Try.func34 (by kernel_rfl) rfl #[.agg #[.int .i64 a0_0, .slice A0_1 l0_1.length c0_1]] rfl (by (try simp only [List.map_toArray, List.map_cons, List.map_nil]); first | done | rfl | (simp only [List.length_drop, List.length_take]; rfl)) ?_; (with_reducible refine (kingpinlaw08_ready.calls k a0_0 _ _ l0_1 false _ ?side1 ?side2 A3.out).mono ?_); (case side1 => repeat (first | exact (Kd.C_below HR0_1.out HB.out) | (with_reducible refine Kd.C_alloc ?_ _) | (with_reducible refine Kd.C_drewN ?_ _) | (with_reducible refine Kd.C_drew ?_))); (case side2 => exact HC0_1.out); rintro e w37 ⟨rfl, hb⟩; refine ⟨_, rfl, ?_⟩; have n0_ := Aside0.mk (blk_below (g := gb409) (o := .cells #[.int .i64 a0_0, .slice A0_1 l0_1.length c0_1] 24 (0, 0)) (by (with_reducible repeat (first | refine blk_drewN ?_ _ | refine blk_drew ?_ | refine blk_alloc ?_ _)); exact BK409.out) hb); have n1_ := Aside0.mk (below_step (by repeat (first | (with_reducible first | exact HB.out | apply below_alloc | apply pw_below_drewN | apply below_drew1 | refine below_set ?_ GE409.out) | exact HB.out)) hb); clear BK409; clear HB; have BK409 := n0_; have HB := n1_; clear n0_ n1_; (try clear hb); (try clear hb2); (try clear hk); (try clear hi)) | ((with_reducible refine gate_callee (f := 16) rfl ?_); refine goesL_ (some 12) rfl rfl Try.func16 (by kernel_rfl) rfl #[] rfl (by (try simp only [List.map_toArray, List.map_cons, List.map_nil]); first | done | rfl | (simp only [List.length_drop, List.length_take]; rfl)) ?_; (with_reducible refine (kingpinlaw08_awake.calls  t411 _ A34.out).mono ?_); rintro e w38 ⟨rfl, hb⟩; refine ⟨_, rfl, ?_⟩; have n0_ := Aside0.mk (blk_below (g := gb409) (o := .cells #[.int .i64 a0_0, .slice A0_1 l0_1.length c0_1] 24 (0, 0)) (by (with_reducible repeat (first | refine blk_drewN ?_ _ | refine blk_drew ?_ | refine blk_alloc ?_ _)); exact BK409.out) hb); have n1_ := Aside0.mk (below_step (by repeat (first | (with_reducible first | exact HB.out | apply below_alloc | apply pw_below_drewN | apply below_drew1 | refine below_set ?_ GE409.out) | exact HB.out)) hb); clear BK409; clear HB; have BK409 := n0_; have HB := n1_; clear n0_ n1_; (try clear hb); (try clear hb2); (try clear hk); (try clear hi)))
  go_ret
  exact ⟨by first | rfl | (simp [errW_none, errW_some] <;> rfl) | (simp [*, errW_none, errW_some] <;> rfl), by repeat (first | (with_reducible first | exact HB.out | apply below_alloc | apply pw_below_drewN | apply below_drew1 | refine below_set ?_ GE409.out) | exact HB.out)⟩
end Go.Proofs.Ytmnamkcjldaoeaa.PAll
namespace Go.Proofs.Ytmnamkcjldaoeaa.PAll
open Go.RowKit Go.Proofs.YtmnamkcjldaoeaaW.PrintWords Go.Proofs.YtmnamkcjldaoeaaW.PrintLast Go.Proofs.YtmnamkcjldaoeaaW.PrintMore
set_option linter.unusedVariables false
set_option linter.unusedSimpArgs false
theorem Gives_ev (a : Int) (l : List S70) (words : List Int) (hw : ∀ x ∈ words, 0 ≤ x ∧ x ≤ 65535) (hwl : words.length ≤ 9223372036854775807) : Ev (fun k => kingpinlaw08_LeagueGives.f k a l words) true := by
 have hawk : Ev (fun k => (kingpinlaw08_awake.f).bind fun t => some t) true := Ev.bind awake_ev (Ev.now _)
 unfold kingpinlaw08_LeagueGives.f
 refine Ev.bind (ready_ev a l) ?_
 cases hr : readyB a l with
 | false => exact hawk
 | true =>
  simp only [if_true]
  unfold readyB at hr
  simp only [Bool.and_eq_true, decide_eq_true_eq] at hr
  obtain ⟨h24, hc⟩ := hr
  obtain ⟨h20, n2, n6, hok⟩ := check_ok hc
  rw [List.length_map] at h20
  obtain ⟨os, ho, hol, hos⟩ := ended_ev a l words hw hwl (by omega)
  refine Ev.bind (League_ev a l (by omega)) (Ev.bind ho ?_)
  simp only [league_After.f, afterF_ok hc hol hos, Option.bind_some]
  obtain ⟨p, hp⟩ : ∃ p, pts a (l.map toG) os = p := ⟨_, rfl⟩
  have hpl := pts_len a (l.map toG) os
  have hpn := pts_nonneg hc hol hos
  have hps := pts_sum hc hol hos
  rw [hp] at hpl hpn hps ⊢
  rw [List.length_map] at hps
  have main : ∀ (d i : Nat) (acc : Int), p.length - i = d → i ≤ p.length → 0 ≤ acc → acc + (p.drop i).sum = 2 * l.length → Ev (fun k => kingpinlaw08_LeagueGives.l0 k p 0 acc (i : Int) a l) true := by
   intro d
   induction d with
   | zero =>
    intro i acc hd hi h0 hs
    obtain rfl : i = p.length := by omega
    rw [List.drop_length, List.sum_nil, Int.add_zero] at hs
    refine Ev.step (fun k => ?_) hawk
    simp only [kingpinlaw08_LeagueGives.l0]
    rw [if_neg (by omega), if_pos trivial, if_pos (by omega), if_pos (by rw [IntWalk.wrap64_in _ ⟨by omega, by omega⟩]; exact hs)]
   | succ d ih =>
    intro i acc hd hi h0 hs
    rw [dropI p i (by omega), List.sum_cons] at hs
    have hm : rd p (i : Int) ∈ p := List.mem_of_mem_drop (i := i) (by rw [dropI p i (by omega)]; exact List.mem_cons_self)
    have h1 := hpn _ hm
    have h2 := nonneg_sum (p.drop (i + 1)) (fun x hx => hpn x (List.mem_of_mem_drop hx))
    refine Ev.step (fun k => ?_) (ih (i + 1) (acc + rd p (i : Int)) (by omega) (by omega) (by omega) (by omega))
    simp only [kingpinlaw08_LeagueGives.l0]
    rw [if_pos (by omega), if_pos (by omega), if_neg (by omega), wrapN i (by omega), IntWalk.wrap64_in (acc + rd p (i : Int)) ⟨by omega, by omega⟩]
  have := main p.length 0 0 rfl (Nat.zero_le _) (by decide) (by rw [List.drop_zero]; omega)
  exact this
end Go.Proofs.Ytmnamkcjldaoeaa.PAll
