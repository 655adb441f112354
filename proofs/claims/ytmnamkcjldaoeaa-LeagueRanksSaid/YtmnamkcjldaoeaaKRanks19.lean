/- Parts of the proof of leagueRanks_holds, in order: HAwake, HP1, HP2, F3, L3 -/
import Derived.Test.YtmnamkcjldaoeaaKRanks3
import Derived.Test.YtmnamkcjldaoeaaKRanks4
import Derived.Test.YtmnamkcjldaoeaaKRanks6
import Derived.Test.YtmnamkcjldaoeaaKRanks7
import Derived.Test.YtmnamkcjldaoeaaKRanks12
import Derived.Test.YtmnamkcjldaoeaaKRanks14
import Derived.Test.YtmnamkcjldaoeaaKRanks15
import Derived.Test.YtmnamkcjldaoeaaKRanks17
import Derived.Test.YtmnamkcjldaoeaaKRanks18
namespace Go.Proofs.Ytmnamkcjldaoeaa.PAll
open Go.RowKit Go.Proofs.YtmnamkcjldaoeaaW.PrintWords Go.Proofs.YtmnamkcjldaoeaaW.PrintLast Go.Proofs.YtmnamkcjldaoeaaW.PrintMore
attribute [local go_sem] max2_int min2_int max_two min_two max_three min_three max_four min_four   -- for this text's walks alone
set_option linter.unusedVariables false
set_option linter.unusedSimpArgs false
def awakeF (k : Nat)  : Option (Bool) := (kingpinlaw08_played.f).bind fun bt176 => ((league_Rank.f k bt176.1 bt176.2 (([1, 3] : List Int))).bind fun bt183 => ((kingpinlaw08_played.f).bind fun bt187 => ((league_After.f bt187.1 bt187.2 (([3, 2] : List Int))).bind fun bt194 => ((kingpinlaw08_played.f).bind fun bt198 => ((league_Reason.f bt198.1 bt198.2 2).bind fun bt202 => ((league_Build.f 4).bind fun bt206 => (if bt183.2 = 0 then ((kingpinlaw08_ints.f k bt183.1 (([1, 1, 3, 4] : List Int))).bind fun t213 => (if t213 = true then (if bt194.2 = 0 then ((kingpinlaw08_ints.f k bt194.1 (([2, 3, 2, 3] : List Int))).bind fun t217 => (if t217 = true then (if bt202.2 = 0 then ((kingpinlaw08_ints.f k bt202.1 (([0, 1, 3] : List Int))).bind fun t221 => (if t221 = true then (if bt206.2 = 0 then ((league_ProveSchedule.f 4 bt206.1 3).bind fun t222 => (if t222 = true then ((league_ProveSchedule.f 4 bt206.1 2).bind fun t223 => (some (!t223))) else (some false))) else (some false)) else (some false))) else (some false)) else (some false))) else (some false)) else (some false))) else (some false))))))))
set_option maxHeartbeats 8000000 in
set_option maxRecDepth 100000 in
theorem awake_calls (k : Nat) (r : Bool) (w : World) (hr : r = true) (h : awakeF k = some r) :
  Calls Try.prog 16 #[] w fun e w' => e = .returned (.bool r) ∧ Below w.heap.size w w' := by
 have HB := Aside0.mk (Below.refl w.heap.size w)
 have H : ((kingpinlaw08_played.f).bind fun bt176 => ((league_Rank.f k bt176.1 bt176.2 (([1, 3] : List Int))).bind fun bt183 => ((kingpinlaw08_played.f).bind fun bt187 => ((league_After.f bt187.1 bt187.2 (([3, 2] : List Int))).bind fun bt194 => ((kingpinlaw08_played.f).bind fun bt198 => ((league_Reason.f bt198.1 bt198.2 2).bind fun bt202 => ((league_Build.f 4).bind fun bt206 => (if bt183.2 = 0 then ((kingpinlaw08_ints.f k bt183.1 (([1, 1, 3, 4] : List Int))).bind fun t213 => (if t213 = true then (if bt194.2 = 0 then ((kingpinlaw08_ints.f k bt194.1 (([2, 3, 2, 3] : List Int))).bind fun t217 => (if t217 = true then (if bt202.2 = 0 then ((kingpinlaw08_ints.f k bt202.1 (([0, 1, 3] : List Int))).bind fun t221 => (if t221 = true then (if bt206.2 = 0 then ((league_ProveSchedule.f 4 bt206.1 3).bind fun t222 => (if t222 = true then ((league_ProveSchedule.f 4 bt206.1 2).bind fun t223 => (some (!t223))) else (some false))) else (some false)) else (some false))) else (some false)) else (some false))) else (some false)) else (some false))) else (some false))))))))) = some r := h
 clear h
 replace H := Option.bind_eq_some_iff.mp H
 obtain ⟨⟨t176, t177⟩, A10, H⟩ := H
 replace H : ((league_Rank.f k t176 t177 (([1, 3] : List Int))).bind fun bt183 => ((kingpinlaw08_played.f).bind fun bt187 => ((league_After.f bt187.1 bt187.2 (([3, 2] : List Int))).bind fun bt194 => ((kingpinlaw08_played.f).bind fun bt198 => ((league_Reason.f bt198.1 bt198.2 2).bind fun bt202 => ((league_Build.f 4).bind fun bt206 => (if bt183.2 = 0 then ((kingpinlaw08_ints.f k bt183.1 (([1, 1, 3, 4] : List Int))).bind fun t213 => (if t213 = true then (if bt194.2 = 0 then ((kingpinlaw08_ints.f k bt194.1 (([2, 3, 2, 3] : List Int))).bind fun t217 => (if t217 = true then (if bt202.2 = 0 then ((kingpinlaw08_ints.f k bt202.1 (([0, 1, 3] : List Int))).bind fun t221 => (if t221 = true then (if bt206.2 = 0 then ((league_ProveSchedule.f 4 bt206.1 3).bind fun t222 => (if t222 = true then ((league_ProveSchedule.f 4 bt206.1 2).bind fun t223 => (some (!t223))) else (some false))) else (some false)) else (some false))) else (some false)) else (some false))) else (some false)) else (some false))) else (some false)))))))) = some r := H
 have A1 := Aside0.mk A10
 clear A10
 obtain ⟨y180, hy180⟩ : ∃ y_ : List Int, y_ = (([1, 3] : List Int)) := ⟨_, rfl⟩
 replace H : ((league_Rank.f k t176 t177 y180).bind fun bt183 => ((kingpinlaw08_played.f).bind fun bt187 => ((league_After.f bt187.1 bt187.2 (([3, 2] : List Int))).bind fun bt194 => ((kingpinlaw08_played.f).bind fun bt198 => ((league_Reason.f bt198.1 bt198.2 2).bind fun bt202 => ((league_Build.f 4).bind fun bt206 => (if bt183.2 = 0 then ((kingpinlaw08_ints.f k bt183.1 (([1, 1, 3, 4] : List Int))).bind fun t213 => (if t213 = true then (if bt194.2 = 0 then ((kingpinlaw08_ints.f k bt194.1 (([2, 3, 2, 3] : List Int))).bind fun t217 => (if t217 = true then (if bt202.2 = 0 then ((kingpinlaw08_ints.f k bt202.1 (([0, 1, 3] : List Int))).bind fun t221 => (if t221 = true then (if bt206.2 = 0 then ((league_ProveSchedule.f 4 bt206.1 3).bind fun t222 => (if t222 = true then ((league_ProveSchedule.f 4 bt206.1 2).bind fun t223 => (some (!t223))) else (some false))) else (some false)) else (some false))) else (some false)) else (some false))) else (some false)) else (some false))) else (some false)))))))) = some r := by first | (rw [hy180]; with_reducible exact H) | (have H2_ := (Option.bind_some _ _).symm.trans H; rw [hy180]; with_reducible exact H2_) | (have H2_ := (Option.bind_some _ _).symm.trans H; with_reducible exact H2_) | with_reducible exact H | (rw [hy180]; exact H) | exact H
 have Ny180 := Aside0.mk hy180
 clear hy180
 replace H := Option.bind_eq_some_iff.mp H
 obtain ⟨⟨t183, t186⟩, A20, H⟩ := H
 replace H : ((kingpinlaw08_played.f).bind fun bt187 => ((league_After.f bt187.1 bt187.2 (([3, 2] : List Int))).bind fun bt194 => ((kingpinlaw08_played.f).bind fun bt198 => ((league_Reason.f bt198.1 bt198.2 2).bind fun bt202 => ((league_Build.f 4).bind fun bt206 => (if t186 = 0 then ((kingpinlaw08_ints.f k t183 (([1, 1, 3, 4] : List Int))).bind fun t213 => (if t213 = true then (if bt194.2 = 0 then ((kingpinlaw08_ints.f k bt194.1 (([2, 3, 2, 3] : List Int))).bind fun t217 => (if t217 = true then (if bt202.2 = 0 then ((kingpinlaw08_ints.f k bt202.1 (([0, 1, 3] : List Int))).bind fun t221 => (if t221 = true then (if bt206.2 = 0 then ((league_ProveSchedule.f 4 bt206.1 3).bind fun t222 => (if t222 = true then ((league_ProveSchedule.f 4 bt206.1 2).bind fun t223 => (some (!t223))) else (some false))) else (some false)) else (some false))) else (some false)) else (some false))) else (some false)) else (some false))) else (some false))))))) = some r := H
 have A2 := Aside0.mk A20
 clear A20
 replace H := Option.bind_eq_some_iff.mp H
 obtain ⟨⟨t187, t188⟩, A30, H⟩ := H
 replace H : ((league_After.f t187 t188 (([3, 2] : List Int))).bind fun bt194 => ((kingpinlaw08_played.f).bind fun bt198 => ((league_Reason.f bt198.1 bt198.2 2).bind fun bt202 => ((league_Build.f 4).bind fun bt206 => (if t186 = 0 then ((kingpinlaw08_ints.f k t183 (([1, 1, 3, 4] : List Int))).bind fun t213 => (if t213 = true then (if bt194.2 = 0 then ((kingpinlaw08_ints.f k bt194.1 (([2, 3, 2, 3] : List Int))).bind fun t217 => (if t217 = true then (if bt202.2 = 0 then ((kingpinlaw08_ints.f k bt202.1 (([0, 1, 3] : List Int))).bind fun t221 => (if t221 = true then (if bt206.2 = 0 then ((league_ProveSchedule.f 4 bt206.1 3).bind fun t222 => (if t222 = true then ((league_ProveSchedule.f 4 bt206.1 2).bind fun t223 => (some (!t223))) else (some false))) else (some false)) else (some false))) else (some false)) else (some false))) else (some false)) else (some false))) else (some false)))))) = some r := H
 have A3 := Aside0.mk A30
 clear A30
 obtain ⟨y191, hy191⟩ : ∃ y_ : List Int, y_ = (([3, 2] : List Int)) := ⟨_, rfl⟩
 replace H : ((league_After.f t187 t188 y191).bind fun bt194 => ((kingpinlaw08_played.f).bind fun bt198 => ((league_Reason.f bt198.1 bt198.2 2).bind fun bt202 => ((league_Build.f 4).bind fun bt206 => (if t186 = 0 then ((kingpinlaw08_ints.f k t183 (([1, 1, 3, 4] : List Int))).bind fun t213 => (if t213 = true then (if bt194.2 = 0 then ((kingpinlaw08_ints.f k bt194.1 (([2, 3, 2, 3] : List Int))).bind fun t217 => (if t217 = true then (if bt202.2 = 0 then ((kingpinlaw08_ints.f k bt202.1 (([0, 1, 3] : List Int))).bind fun t221 => (if t221 = true then (if bt206.2 = 0 then ((league_ProveSchedule.f 4 bt206.1 3).bind fun t222 => (if t222 = true then ((league_ProveSchedule.f 4 bt206.1 2).bind fun t223 => (some (!t223))) else (some false))) else (some false)) else (some false))) else (some false)) else (some false))) else (some false)) else (some false))) else (some false)))))) = some r := by first | (rw [hy191]; with_reducible exact H) | (have H2_ := (Option.bind_some _ _).symm.trans H; rw [hy191]; with_reducible exact H2_) | (have H2_ := (Option.bind_some _ _).symm.trans H; with_reducible exact H2_) | with_reducible exact H | (rw [hy191]; exact H) | exact H
 have Ny191 := Aside0.mk hy191
 clear hy191
 replace H := Option.bind_eq_some_iff.mp H
 obtain ⟨⟨t194, t197⟩, A40, H⟩ := H
 replace H : ((kingpinlaw08_played.f).bind fun bt198 => ((league_Reason.f bt198.1 bt198.2 2).bind fun bt202 => ((league_Build.f 4).bind fun bt206 => (if t186 = 0 then ((kingpinlaw08_ints.f k t183 (([1, 1, 3, 4] : List Int))).bind fun t213 => (if t213 = true then (if t197 = 0 then ((kingpinlaw08_ints.f k t194 (([2, 3, 2, 3] : List Int))).bind fun t217 => (if t217 = true then (if bt202.2 = 0 then ((kingpinlaw08_ints.f k bt202.1 (([0, 1, 3] : List Int))).bind fun t221 => (if t221 = true then (if bt206.2 = 0 then ((league_ProveSchedule.f 4 bt206.1 3).bind fun t222 => (if t222 = true then ((league_ProveSchedule.f 4 bt206.1 2).bind fun t223 => (some (!t223))) else (some false))) else (some false)) else (some false))) else (some false)) else (some false))) else (some false)) else (some false))) else (some false))))) = some r := H
 have A4 := Aside0.mk A40
 clear A40
 replace H := Option.bind_eq_some_iff.mp H
 obtain ⟨⟨t198, t199⟩, A50, H⟩ := H
 replace H : ((league_Reason.f t198 t199 2).bind fun bt202 => ((league_Build.f 4).bind fun bt206 => (if t186 = 0 then ((kingpinlaw08_ints.f k t183 (([1, 1, 3, 4] : List Int))).bind fun t213 => (if t213 = true then (if t197 = 0 then ((kingpinlaw08_ints.f k t194 (([2, 3, 2, 3] : List Int))).bind fun t217 => (if t217 = true then (if bt202.2 = 0 then ((kingpinlaw08_ints.f k bt202.1 (([0, 1, 3] : List Int))).bind fun t221 => (if t221 = true then (if bt206.2 = 0 then ((league_ProveSchedule.f 4 bt206.1 3).bind fun t222 => (if t222 = true then ((league_ProveSchedule.f 4 bt206.1 2).bind fun t223 => (some (!t223))) else (some false))) else (some false)) else (some false))) else (some false)) else (some false))) else (some false)) else (some false))) else (some false)))) = some r := H
 have A5 := Aside0.mk A50
 clear A50
 replace H := Option.bind_eq_some_iff.mp H
 obtain ⟨⟨t202, t205⟩, A60, H⟩ := H
 replace H : ((league_Build.f 4).bind fun bt206 => (if t186 = 0 then ((kingpinlaw08_ints.f k t183 (([1, 1, 3, 4] : List Int))).bind fun t213 => (if t213 = true then (if t197 = 0 then ((kingpinlaw08_ints.f k t194 (([2, 3, 2, 3] : List Int))).bind fun t217 => (if t217 = true then (if t205 = 0 then ((kingpinlaw08_ints.f k t202 (([0, 1, 3] : List Int))).bind fun t221 => (if t221 = true then (if bt206.2 = 0 then ((league_ProveSchedule.f 4 bt206.1 3).bind fun t222 => (if t222 = true then ((league_ProveSchedule.f 4 bt206.1 2).bind fun t223 => (some (!t223))) else (some false))) else (some false)) else (some false))) else (some false)) else (some false))) else (some false)) else (some false))) else (some false))) = some r := H
 have A6 := Aside0.mk A60
 clear A60
 replace H := Option.bind_eq_some_iff.mp H
 obtain ⟨⟨t206, t207⟩, A70, H⟩ := H
 replace H : (if t186 = 0 then ((kingpinlaw08_ints.f k t183 (([1, 1, 3, 4] : List Int))).bind fun t213 => (if t213 = true then (if t197 = 0 then ((kingpinlaw08_ints.f k t194 (([2, 3, 2, 3] : List Int))).bind fun t217 => (if t217 = true then (if t205 = 0 then ((kingpinlaw08_ints.f k t202 (([0, 1, 3] : List Int))).bind fun t221 => (if t221 = true then (if t207 = 0 then ((league_ProveSchedule.f 4 t206 3).bind fun t222 => (if t222 = true then ((league_ProveSchedule.f 4 t206 2).bind fun t223 => (some (!t223))) else (some false))) else (some false)) else (some false))) else (some false)) else (some false))) else (some false)) else (some false))) else (some false)) = some r := H
 have A7 := Aside0.mk A70
 clear A70
 by_cases c8 : t186 = 0
 ·
  rw [if_pos c8] at H
  have c8b0 : (t186 == 0) = true := beq_iff_eq.mpr c8
  have c8b1 : (t186 != 0) = false := bne_eq_false_iff_eq.mpr c8
  clear c8
  obtain ⟨y210, hy210⟩ : ∃ y_ : List Int, y_ = (([1, 1, 3, 4] : List Int)) := ⟨_, rfl⟩
  replace H : ((kingpinlaw08_ints.f k t183 y210).bind fun t213 => (if t213 = true then (if t197 = 0 then ((kingpinlaw08_ints.f k t194 (([2, 3, 2, 3] : List Int))).bind fun t217 => (if t217 = true then (if t205 = 0 then ((kingpinlaw08_ints.f k t202 (([0, 1, 3] : List Int))).bind fun t221 => (if t221 = true then (if t207 = 0 then ((league_ProveSchedule.f 4 t206 3).bind fun t222 => (if t222 = true then ((league_ProveSchedule.f 4 t206 2).bind fun t223 => (some (!t223))) else (some false))) else (some false)) else (some false))) else (some false)) else (some false))) else (some false)) else (some false))) = some r := by first | (rw [hy210]; with_reducible exact H) | (have H2_ := (Option.bind_some _ _).symm.trans H; rw [hy210]; with_reducible exact H2_) | (have H2_ := (Option.bind_some _ _).symm.trans H; with_reducible exact H2_) | with_reducible exact H | (rw [hy210]; exact H) | exact H
  have Ny210 := Aside0.mk hy210
  clear hy210
  replace H := Option.bind_eq_some_iff.mp H
  obtain ⟨t213, A90, H⟩ := H
  replace H : (if t213 = true then (if t197 = 0 then ((kingpinlaw08_ints.f k t194 (([2, 3, 2, 3] : List Int))).bind fun t217 => (if t217 = true then (if t205 = 0 then ((kingpinlaw08_ints.f k t202 (([0, 1, 3] : List Int))).bind fun t221 => (if t221 = true then (if t207 = 0 then ((league_ProveSchedule.f 4 t206 3).bind fun t222 => (if t222 = true then ((league_ProveSchedule.f 4 t206 2).bind fun t223 => (some (!t223))) else (some false))) else (some false)) else (some false))) else (some false)) else (some false))) else (some false)) else (some false)) = some r := H
  have A9 := Aside0.mk A90
  clear A90
  by_cases c10 : t213 = true
  ·
   subst c10
   have H1 : (if t197 = 0 then ((kingpinlaw08_ints.f k t194 (([2, 3, 2, 3] : List Int))).bind fun t217 => (if t217 = true then (if t205 = 0 then ((kingpinlaw08_ints.f k t202 (([0, 1, 3] : List Int))).bind fun t221 => (if t221 = true then (if t207 = 0 then ((league_ProveSchedule.f 4 t206 3).bind fun t222 => (if t222 = true then ((league_ProveSchedule.f 4 t206 2).bind fun t223 => (some (!t223))) else (some false))) else (some false)) else (some false))) else (some false)) else (some false))) else (some false)) = some r := by rw [if_pos rfl] at H; exact H
   clear H
   have H := H1
   clear H1
   by_cases c11 : t197 = 0
   ·
    rw [if_pos c11] at H
    have c11b0 : (t197 == 0) = true := beq_iff_eq.mpr c11
    have c11b1 : (t197 != 0) = false := bne_eq_false_iff_eq.mpr c11
    clear c11
    obtain ⟨y214, hy214⟩ : ∃ y_ : List Int, y_ = (([2, 3, 2, 3] : List Int)) := ⟨_, rfl⟩
    replace H : ((kingpinlaw08_ints.f k t194 y214).bind fun t217 => (if t217 = true then (if t205 = 0 then ((kingpinlaw08_ints.f k t202 (([0, 1, 3] : List Int))).bind fun t221 => (if t221 = true then (if t207 = 0 then ((league_ProveSchedule.f 4 t206 3).bind fun t222 => (if t222 = true then ((league_ProveSchedule.f 4 t206 2).bind fun t223 => (some (!t223))) else (some false))) else (some false)) else (some false))) else (some false)) else (some false))) = some r := by first | (rw [hy214]; with_reducible exact H) | (have H2_ := (Option.bind_some _ _).symm.trans H; rw [hy214]; with_reducible exact H2_) | (have H2_ := (Option.bind_some _ _).symm.trans H; with_reducible exact H2_) | with_reducible exact H | (rw [hy214]; exact H) | exact H
    have Ny214 := Aside0.mk hy214
    clear hy214
    replace H := Option.bind_eq_some_iff.mp H
    obtain ⟨t217, A120, H⟩ := H
    replace H : (if t217 = true then (if t205 = 0 then ((kingpinlaw08_ints.f k t202 (([0, 1, 3] : List Int))).bind fun t221 => (if t221 = true then (if t207 = 0 then ((league_ProveSchedule.f 4 t206 3).bind fun t222 => (if t222 = true then ((league_ProveSchedule.f 4 t206 2).bind fun t223 => (some (!t223))) else (some false))) else (some false)) else (some false))) else (some false)) else (some false)) = some r := H
    have A12 := Aside0.mk A120
    clear A120
    by_cases c13 : t217 = true
    ·
     subst c13
     have H1 : (if t205 = 0 then ((kingpinlaw08_ints.f k t202 (([0, 1, 3] : List Int))).bind fun t221 => (if t221 = true then (if t207 = 0 then ((league_ProveSchedule.f 4 t206 3).bind fun t222 => (if t222 = true then ((league_ProveSchedule.f 4 t206 2).bind fun t223 => (some (!t223))) else (some false))) else (some false)) else (some false))) else (some false)) = some r := by rw [if_pos rfl] at H; exact H
     clear H
     have H := H1
     clear H1
     by_cases c14 : t205 = 0
     ·
      rw [if_pos c14] at H
      have c14b0 : (t205 == 0) = true := beq_iff_eq.mpr c14
      have c14b1 : (t205 != 0) = false := bne_eq_false_iff_eq.mpr c14
      clear c14
      obtain ⟨y218, hy218⟩ : ∃ y_ : List Int, y_ = (([0, 1, 3] : List Int)) := ⟨_, rfl⟩
      replace H : ((kingpinlaw08_ints.f k t202 y218).bind fun t221 => (if t221 = true then (if t207 = 0 then ((league_ProveSchedule.f 4 t206 3).bind fun t222 => (if t222 = true then ((league_ProveSchedule.f 4 t206 2).bind fun t223 => (some (!t223))) else (some false))) else (some false)) else (some false))) = some r := by first | (rw [hy218]; with_reducible exact H) | (have H2_ := (Option.bind_some _ _).symm.trans H; rw [hy218]; with_reducible exact H2_) | (have H2_ := (Option.bind_some _ _).symm.trans H; with_reducible exact H2_) | with_reducible exact H | (rw [hy218]; exact H) | exact H
      have Ny218 := Aside0.mk hy218
      clear hy218
      replace H := Option.bind_eq_some_iff.mp H
      obtain ⟨t221, A150, H⟩ := H
      replace H : (if t221 = true then (if t207 = 0 then ((league_ProveSchedule.f 4 t206 3).bind fun t222 => (if t222 = true then ((league_ProveSchedule.f 4 t206 2).bind fun t223 => (some (!t223))) else (some false))) else (some false)) else (some false)) = some r := H
      have A15 := Aside0.mk A150
      clear A150
      by_cases c16 : t221 = true
      ·
       subst c16
       have H1 : (if t207 = 0 then ((league_ProveSchedule.f 4 t206 3).bind fun t222 => (if t222 = true then ((league_ProveSchedule.f 4 t206 2).bind fun t223 => (some (!t223))) else (some false))) else (some false)) = some r := by rw [if_pos rfl] at H; exact H
       clear H
       have H := H1
       clear H1
       by_cases c17 : t207 = 0
       ·
        rw [if_pos c17] at H
        have c17b0 : (t207 == 0) = true := beq_iff_eq.mpr c17
        have c17b1 : (t207 != 0) = false := bne_eq_false_iff_eq.mpr c17
        clear c17
        replace H := Option.bind_eq_some_iff.mp H
        obtain ⟨t222, A180, H⟩ := H
        replace H : (if t222 = true then ((league_ProveSchedule.f 4 t206 2).bind fun t223 => (some (!t223))) else (some false)) = some r := H
        have A18 := Aside0.mk A180
        clear A180
        by_cases c19 : t222 = true
        ·
         subst c19
         have H1 : ((league_ProveSchedule.f 4 t206 2).bind fun t223 => (some (!t223))) = some r := by rw [if_pos rfl] at H; exact H
         clear H
         have H := H1
         clear H1
         replace H := Option.bind_eq_some_iff.mp H
         obtain ⟨t223, A200, H⟩ := H
         replace H : (some (!t223)) = some r := H
         have A20 := Aside0.mk A200
         clear A200
         obtain rfl := Option.some.inj H
         go_enter Try.func16, Try.ntmps16
         go_wp2_with (first | ((with_reducible refine gate_callee (f := 49) rfl ?_); refine goesL_ (some 10) rfl rfl Try.func49 (by kernel_rfl) rfl #[] rfl (by (try simp only [List.map_toArray, List.map_cons, List.map_nil]); first | done | rfl | (simp only [List.length_drop, List.length_take]; rfl)) ?_; (with_reducible refine (kingpinlaw08_played.calls  t176 t177 _ A1.out).mono ?_); rintro e w21 ⟨v178, rfl, ho0, hb⟩; refine ⟨_, rfl, ?_⟩; have n0_ := Aside0.mk (Kd.R_lower ho0 (below_size (by repeat (first | (with_reducible first | exact HB.out | apply below_alloc | apply pw_below_drewN | apply below_drew1) | exact HB.out)))); have n1_ := Aside0.mk (below_step (by repeat (first | (with_reducible first | exact HB.out | apply below_alloc | apply pw_below_drewN | apply below_drew1) | exact HB.out)) hb); clear HB; have HO179 := n0_; have HB := n1_; clear n0_ n1_; (try clear hb); (try clear hb2); (try clear hk); (try clear hi); (try clear ho0)) | ((with_reducible refine gate_dst (N := 11) rfl ?_); (try (refine gate_guard (by rfl) ?_; dsimp only)); refine Kd.R_lit (Kd.int .u8) _ 5 ?hg (N := 11) ?hd (xs := ([1, 3] : List Int)) (inner := [.int .u8 1, .int .u8 3]) (ok := fun _ => True) (okp := fun _ => True) ?hr ?hp (fun _ hk => hk) trivial (Below.refl _ _) (Nat.le_refl _) (by simp) ?_; (case hd => rfl); (case hg => rfl); (case hr => first | (go_simp; done) | (go_simp; rfl)); (case hp => exact (Reps.one (show Kd.M (Kd.int .u8) _ _ _ 1 [.int .u8 1] from rfl) (Reps.one (show Kd.M (Kd.int .u8) _ _ _ 3 [.int .u8 3] from rfl) (Reps.none _ _)))); intro v181 w22 ho23 hb hg_ hnew_; clear hg_ hnew_; (first | rw [← Ny180.out] at ho23 | (simp only [Int.reduceToNat] at ho23; rw [← Ny180.out] at ho23)); have n0_ := Aside0.mk (Kd.R_below (by (with_reducible repeat (first | apply Kd.R_alloc | apply Kd.R_drewN | apply Kd.R_drew)); exact HO179.out) hb); have n1_ := Aside0.mk (Kd.R_lower ho23 (below_size (by repeat (first | (with_reducible first | exact HB.out | apply below_alloc | apply pw_below_drewN | apply below_drew1) | exact HB.out)))); have n2_ := Aside0.mk (below_step (by repeat (first | (with_reducible first | exact HB.out | apply below_alloc | apply pw_below_drewN | apply below_drew1) | exact HB.out)) hb); clear HO179; clear HB; have HO179 := n0_; have HO182 := n1_; have HB := n2_; clear n0_ n1_ n2_; clear hb ho23; obtain ⟨Ao24, co24, eo24⟩ := Kd.R_slice HO179.out; subst eo24; obtain ⟨Ao25, co25, eo25⟩ := Kd.R_slice HO182.out; subst eo25) | ((with_reducible refine gate_callee (f := 19) rfl ?_); refine goesL_ (some 12) rfl rfl Try.func19 (by kernel_rfl) rfl #[.agg #[.int .i64 t176, .slice Ao24 t177.length co24], .slice Ao25 y180.length co25] rfl (by (try simp only [List.map_toArray, List.map_cons, List.map_nil]); first | done | rfl | (simp only [List.length_drop, List.length_take]; rfl)) ?_; (with_reducible refine (league_Rank.calls k t176 _ _ t177 _ _ y180 t183 t186 _ ?side1 ?side2 ?side3 ?side4 A2.out).mono ?_); (case side1 => repeat (first | exact (Kd.R_reads' HO179.out).2.2 | (with_reducible refine Kd.C_alloc ?_ _) | (with_reducible refine Kd.C_drewN ?_ _) | (with_reducible refine Kd.C_drew ?_))); (case side2 => exact (Kd.R_reads' HO179.out).2.1); (case side3 => repeat (first | exact (Kd.R_reads' HO182.out).2.2 | (with_reducible refine Kd.C_alloc ?_ _) | (with_reducible refine Kd.C_drewN ?_ _) | (with_reducible refine Kd.C_drew ?_))); (case side4 => exact (Kd.R_reads' HO182.out).2.1); rintro e w26 ⟨v184, rfl, ho0, hb⟩; refine ⟨_, rfl, ?_⟩; have n0_ := Aside0.mk (Kd.R_below (by (with_reducible repeat (first | apply Kd.R_alloc | apply Kd.R_drewN | apply Kd.R_drew)); exact HO179.out) hb); have n1_ := Aside0.mk (Kd.R_below (by (with_reducible repeat (first | apply Kd.R_alloc | apply Kd.R_drewN | apply Kd.R_drew)); exact HO182.out) hb); have n2_ := Aside0.mk (Kd.R_lower ho0 (below_size (by repeat (first | (with_reducible first | exact HB.out | apply below_alloc | apply pw_below_drewN | apply below_drew1) | exact HB.out)))); have n3_ := Aside0.mk (below_step (by repeat (first | (with_reducible first | exact HB.out | apply below_alloc | apply pw_below_drewN | apply below_drew1) | exact HB.out)) hb); clear HO179; clear HO182; clear HB; have HO179 := n0_; have HO182 := n1_; have HO185 := n2_; have HB := n3_; clear n0_ n1_ n2_ n3_; (try clear hb); (try clear hb2); (try clear hk); (try clear hi); (try clear ho0)) | ((with_reducible refine gate_callee (f := 49) rfl ?_); refine goesL_ (some 16) rfl rfl Try.func49 (by kernel_rfl) rfl #[] rfl (by (try simp only [List.map_toArray, List.map_cons, List.map_nil]); first | done | rfl | (simp only [List.length_drop, List.length_take]; rfl)) ?_; (with_reducible refine (kingpinlaw08_played.calls  t187 t188 _ A3.out).mono ?_); rintro e w27 ⟨v189, rfl, ho0, hb⟩; refine ⟨_, rfl, ?_⟩; have n0_ := Aside0.mk (Kd.R_elder' (by (with_reducible repeat (first | apply Kd.R_alloc | apply Kd.R_drewN | apply Kd.R_drew)); exact HO179.out) (Kd.R_base ho0) hb); have n1_ := Aside0.mk (Kd.R_below (by (with_reducible repeat (first | apply Kd.R_alloc | apply Kd.R_drewN | apply Kd.R_drew)); exact HO182.out) hb); have n2_ := Aside0.mk (Kd.R_below (by (with_reducible repeat (first | apply Kd.R_alloc | apply Kd.R_drewN | apply Kd.R_drew)); exact HO185.out) hb); have n3_ := Aside0.mk (Kd.R_lower (Kd.R_new' ho0 (Kd.R_lt (by (with_reducible repeat (first | apply Kd.R_alloc | apply Kd.R_drewN | apply Kd.R_drew)); exact HO179.out))) (below_size (by repeat (first | (with_reducible first | exact HB.out | apply below_alloc | apply pw_below_drewN | apply below_drew1) | exact HB.out)))); have n4_ := Aside0.mk (below_step (by repeat (first | (with_reducible first | exact HB.out | apply below_alloc | apply pw_below_drewN | apply below_drew1) | exact HB.out)) hb); clear HO179; clear HO182; clear HO185; clear HB; have HO179 := n0_; have HO182 := n1_; have HO185 := n2_; have HO190 := n3_; have HB := n4_; clear n0_ n1_ n2_ n3_ n4_; (try clear hb); (try clear hb2); (try clear hk); (try clear hi); (try clear ho0)) | ((with_reducible refine gate_dst (N := 17) rfl ?_); (try (refine gate_guard (by rfl) ?_; dsimp only)); refine Kd.R_lit (Kd.int .u8) _ 5 ?hg (N := 17) ?hd (xs := ([3, 2] : List Int)) (inner := [.int .u8 3, .int .u8 2]) (ok := fun _ => True) (okp := fun _ => True) ?hr ?hp (fun _ hk => hk) trivial (Below.refl _ _) (Nat.le_refl _) (by simp) ?_; (case hd => rfl); (case hg => rfl); (case hr => first | (go_simp; done) | (go_simp; rfl)); (case hp => exact (Reps.one (show Kd.M (Kd.int .u8) _ _ _ 3 [.int .u8 3] from rfl) (Reps.one (show Kd.M (Kd.int .u8) _ _ _ 2 [.int .u8 2] from rfl) (Reps.none _ _)))); intro v192 w28 ho29 hb hg_ hnew_; clear hg_ hnew_; (first | rw [← Ny191.out] at ho29 | (simp only [Int.reduceToNat] at ho29; rw [← Ny191.out] at ho29)); have n0_ := Aside0.mk (Kd.R_below (by (with_reducible repeat (first | apply Kd.R_alloc | apply Kd.R_drewN | apply Kd.R_drew)); exact HO179.out) hb); have n1_ := Aside0.mk (Kd.R_elder' (by (with_reducible repeat (first | apply Kd.R_alloc | apply Kd.R_drewN | apply Kd.R_drew)); exact HO182.out) (Kd.R_base ho29) hb); have n2_ := Aside0.mk (Kd.R_below (by (with_reducible repeat (first | apply Kd.R_alloc | apply Kd.R_drewN | apply Kd.R_drew)); exact HO185.out) hb); have n3_ := Aside0.mk (Kd.R_below (by (with_reducible repeat (first | apply Kd.R_alloc | apply Kd.R_drewN | apply Kd.R_drew)); exact HO190.out) hb); have n4_ := Aside0.mk (Kd.R_lower (Kd.R_new' ho29 (Kd.R_lt (by (with_reducible repeat (first | apply Kd.R_alloc | apply Kd.R_drewN | apply Kd.R_drew)); exact HO182.out))) (below_size (by repeat (first | (with_reducible first | exact HB.out | apply below_alloc | apply pw_below_drewN | apply below_drew1) | exact HB.out)))); have n5_ := Aside0.mk (below_step (by repeat (first | (with_reducible first | exact HB.out | apply below_alloc | apply pw_below_drewN | apply below_drew1) | exact HB.out)) hb); clear HO179; clear HO182; clear HO185; clear HO190; clear HB; have HO179 := n0_; have HO182 := n1_; have HO185 := n2_; have HO190 := n3_; have HO193 := n4_; have HB := n5_; clear n0_ n1_ n2_ n3_ n4_ n5_; clear hb ho29; obtain ⟨Ao30, co30, eo30⟩ := Kd.R_slice HO190.out; subst eo30; obtain ⟨Ao31, co31, eo31⟩ := Kd.R_slice HO193.out; subst eo31) | ((with_reducible refine gate_callee (f := 25) rfl ?_); refine goesL_ (some 18) rfl rfl Try.func25 (by kernel_rfl) rfl #[.agg #[.int .i64 t187, .slice Ao30 t188.length co30], .slice Ao31 y191.length co31] rfl (by (try simp only [List.map_toArray, List.map_cons, List.map_nil]); first | done | rfl | (simp only [List.length_drop, List.length_take]; rfl)) ?_; (with_reducible refine (league_After.calls t187 _ _ t188 _ _ y191 t194 t197 _ ?side1 ?side2 ?side3 ?side4 A4.out).mono ?_); (case side1 => repeat (first | exact (Kd.R_reads' HO190.out).2.2 | (with_reducible refine Kd.C_alloc ?_ _) | (with_reducible refine Kd.C_drewN ?_ _) | (with_reducible refine Kd.C_drew ?_))); (case side2 => exact (Kd.R_reads' HO190.out).2.1); (case side3 => repeat (first | exact (Kd.R_reads' HO193.out).2.2 | (with_reducible refine Kd.C_alloc ?_ _) | (with_reducible refine Kd.C_drewN ?_ _) | (with_reducible refine Kd.C_drew ?_))); (case side4 => exact (Kd.R_reads' HO193.out).2.1); rintro e w32 ⟨v195, rfl, ho0, hb⟩; refine ⟨_, rfl, ?_⟩; have n0_ := Aside0.mk (Kd.R_below (by (with_reducible repeat (first | apply Kd.R_alloc | apply Kd.R_drewN | apply Kd.R_drew)); exact HO179.out) hb); have n1_ := Aside0.mk (Kd.R_below (by (with_reducible repeat (first | apply Kd.R_alloc | apply Kd.R_drewN | apply Kd.R_drew)); exact HO182.out) hb); have n2_ := Aside0.mk (Kd.R_elder' (by (with_reducible repeat (first | apply Kd.R_alloc | apply Kd.R_drewN | apply Kd.R_drew)); exact HO185.out) (Kd.R_base ho0) hb); have n3_ := Aside0.mk (Kd.R_below (by (with_reducible repeat (first | apply Kd.R_alloc | apply Kd.R_drewN | apply Kd.R_drew)); exact HO190.out) hb); have n4_ := Aside0.mk (Kd.R_below (by (with_reducible repeat (first | apply Kd.R_alloc | apply Kd.R_drewN | apply Kd.R_drew)); exact HO193.out) hb); have n5_ := Aside0.mk (Kd.R_lower (Kd.R_new' ho0 (Kd.R_lt (by (with_reducible repeat (first | apply Kd.R_alloc | apply Kd.R_drewN | apply Kd.R_drew)); exact HO185.out))) (below_size (by repeat (first | (with_reducible first | exact HB.out | apply below_alloc | apply pw_below_drewN | apply below_drew1) | exact HB.out)))); have n6_ := Aside0.mk (below_step (by repeat (first | (with_reducible first | exact HB.out | apply below_alloc | apply pw_below_drewN | apply below_drew1) | exact HB.out)) hb); clear HO179; clear HO182; clear HO185; clear HO190; clear HO193; clear HB; have HO179 := n0_; have HO182 := n1_; have HO185 := n2_; have HO190 := n3_; have HO193 := n4_; have HO196 := n5_; have HB := n6_; clear n0_ n1_ n2_ n3_ n4_ n5_ n6_; (try clear hb); (try clear hb2); (try clear hk); (try clear hi); (try clear ho0)) | ((with_reducible refine gate_callee (f := 49) rfl ?_); refine goesL_ (some 22) rfl rfl Try.func49 (by kernel_rfl) rfl #[] rfl (by (try simp only [List.map_toArray, List.map_cons, List.map_nil]); first | done | rfl | (simp only [List.length_drop, List.length_take]; rfl)) ?_; (with_reducible refine (kingpinlaw08_played.calls  t198 t199 _ A5.out).mono ?_); rintro e w33 ⟨v200, rfl, ho0, hb⟩; refine ⟨_, rfl, ?_⟩; have n0_ := Aside0.mk (Kd.R_elder' (by (with_reducible repeat (first | apply Kd.R_alloc | apply Kd.R_drewN | apply Kd.R_drew)); exact HO179.out) (Kd.R_base ho0) hb); have n1_ := Aside0.mk (Kd.R_below (by (with_reducible repeat (first | apply Kd.R_alloc | apply Kd.R_drewN | apply Kd.R_drew)); exact HO182.out) hb); have n2_ := Aside0.mk (Kd.R_below (by (with_reducible repeat (first | apply Kd.R_alloc | apply Kd.R_drewN | apply Kd.R_drew)); exact HO185.out) hb); have n3_ := Aside0.mk (Kd.R_elder' (by (with_reducible repeat (first | apply Kd.R_alloc | apply Kd.R_drewN | apply Kd.R_drew)); exact HO190.out) (Kd.R_base ho0) hb); have n4_ := Aside0.mk (Kd.R_below (by (with_reducible repeat (first | apply Kd.R_alloc | apply Kd.R_drewN | apply Kd.R_drew)); exact HO193.out) hb); have n5_ := Aside0.mk (Kd.R_below (by (with_reducible repeat (first | apply Kd.R_alloc | apply Kd.R_drewN | apply Kd.R_drew)); exact HO196.out) hb); have n6_ := Aside0.mk (Kd.R_lower (Kd.R_new' (Kd.R_new' ho0 (Kd.R_lt (by (with_reducible repeat (first | apply Kd.R_alloc | apply Kd.R_drewN | apply Kd.R_drew)); exact HO179.out))) (Kd.R_lt (by (with_reducible repeat (first | apply Kd.R_alloc | apply Kd.R_drewN | apply Kd.R_drew)); exact HO190.out))) (below_size (by repeat (first | (with_reducible first | exact HB.out | apply below_alloc | apply pw_below_drewN | apply below_drew1) | exact HB.out)))); have n7_ := Aside0.mk (below_step (by repeat (first | (with_reducible first | exact HB.out | apply below_alloc | apply pw_below_drewN | apply below_drew1) | exact HB.out)) hb); clear HO179; clear HO182; clear HO185; clear HO190; clear HO193; clear HO196; clear HB; have HO179 := n0_; have HO182 := n1_; have HO185 := n2_; have HO190 := n3_; have HO193 := n4_; have HO196 := n5_; have HO201 := n6_; have HB := n7_; clear n0_ n1_ n2_ n3_ n4_ n5_ n6_ n7_; (try clear hb); (try clear hb2); (try clear hk); (try clear hi); (try clear ho0); obtain ⟨Ao34, co34, eo34⟩ := Kd.R_slice HO201.out; subst eo34) | ((with_reducible refine gate_callee (f := 37) rfl ?_); refine goesL_ (some 23) rfl rfl Try.func37 (by kernel_rfl) rfl #[.agg #[.int .i64 t198, .slice Ao34 t199.length co34], .int .i64 2] rfl (by (try simp only [List.map_toArray, List.map_cons, List.map_nil]); first | done | rfl | (simp only [List.length_drop, List.length_take]; rfl)) ?_; (with_reducible refine (league_Reason.calls t198 _ _ t199 2 t202 t205 _ ?side1 ?side2 A6.out).mono ?_); (case side1 => repeat (first | exact (Kd.R_reads' HO201.out).2.2 | (with_reducible refine Kd.C_alloc ?_ _) | (with_reducible refine Kd.C_drewN ?_ _) | (with_reducible refine Kd.C_drew ?_))); (case side2 => exact (Kd.R_reads' HO201.out).2.1); rintro e w35 ⟨v203, rfl, ho0, hb⟩; refine ⟨_, rfl, ?_⟩; have n0_ := Aside0.mk (Kd.R_below (by (with_reducible repeat (first | apply Kd.R_alloc | apply Kd.R_drewN | apply Kd.R_drew)); exact HO179.out) hb); have n1_ := Aside0.mk (Kd.R_below (by (with_reducible repeat (first | apply Kd.R_alloc | apply Kd.R_drewN | apply Kd.R_drew)); exact HO182.out) hb); have n2_ := Aside0.mk (Kd.R_elder' (by (with_reducible repeat (first | apply Kd.R_alloc | apply Kd.R_drewN | apply Kd.R_drew)); exact HO185.out) (Kd.R_base ho0) hb); have n3_ := Aside0.mk (Kd.R_below (by (with_reducible repeat (first | apply Kd.R_alloc | apply Kd.R_drewN | apply Kd.R_drew)); exact HO190.out) hb); have n4_ := Aside0.mk (Kd.R_below (by (with_reducible repeat (first | apply Kd.R_alloc | apply Kd.R_drewN | apply Kd.R_drew)); exact HO193.out) hb); have n5_ := Aside0.mk (Kd.R_elder' (by (with_reducible repeat (first | apply Kd.R_alloc | apply Kd.R_drewN | apply Kd.R_drew)); exact HO196.out) (Kd.R_base ho0) hb); have n6_ := Aside0.mk (Kd.R_below (by (with_reducible repeat (first | apply Kd.R_alloc | apply Kd.R_drewN | apply Kd.R_drew)); exact HO201.out) hb); have n7_ := Aside0.mk (Kd.R_lower (Kd.R_new' (Kd.R_new' ho0 (Kd.R_lt (by (with_reducible repeat (first | apply Kd.R_alloc | apply Kd.R_drewN | apply Kd.R_drew)); exact HO185.out))) (Kd.R_lt (by (with_reducible repeat (first | apply Kd.R_alloc | apply Kd.R_drewN | apply Kd.R_drew)); exact HO196.out))) (below_size (by repeat (first | (with_reducible first | exact HB.out | apply below_alloc | apply pw_below_drewN | apply below_drew1) | exact HB.out)))); have n8_ := Aside0.mk (below_step (by repeat (first | (with_reducible first | exact HB.out | apply below_alloc | apply pw_below_drewN | apply below_drew1) | exact HB.out)) hb); clear HO179; clear HO182; clear HO185; clear HO190; clear HO193; clear HO196; clear HO201; clear HB; have HO179 := n0_; have HO182 := n1_; have HO185 := n2_; have HO190 := n3_; have HO193 := n4_; have HO196 := n5_; have HO201 := n6_; have HO204 := n7_; have HB := n8_; clear n0_ n1_ n2_ n3_ n4_ n5_ n6_ n7_ n8_; (try clear hb); (try clear hb2); (try clear hk); (try clear hi); (try clear ho0)) | ((with_reducible refine gate_callee (f := 29) rfl ?_); refine goesL_ (some 27) rfl rfl Try.func29 (by kernel_rfl) rfl #[.int .i64 4] rfl (by (try simp only [List.map_toArray, List.map_cons, List.map_nil]); first | done | rfl | (simp only [List.length_drop, List.length_take]; rfl)) ?_; (with_reducible refine (league_Build.calls 4 t206 t207 _ A7.out).mono ?_); rintro e w36 ⟨v208, rfl, ho0, hb⟩; refine ⟨_, rfl, ?_⟩; have n0_ := Aside0.mk (Kd.R_below (by (with_reducible repeat (first | apply Kd.R_alloc | apply Kd.R_drewN | apply Kd.R_drew)); exact HO179.out) hb); have n1_ := Aside0.mk (Kd.R_below (by (with_reducible repeat (first | apply Kd.R_alloc | apply Kd.R_drewN | apply Kd.R_drew)); exact HO182.out) hb); have n2_ := Aside0.mk (Kd.R_below (by (with_reducible repeat (first | apply Kd.R_alloc | apply Kd.R_drewN | apply Kd.R_drew)); exact HO185.out) hb); have n3_ := Aside0.mk (Kd.R_below (by (with_reducible repeat (first | apply Kd.R_alloc | apply Kd.R_drewN | apply Kd.R_drew)); exact HO190.out) hb); have n4_ := Aside0.mk (Kd.R_below (by (with_reducible repeat (first | apply Kd.R_alloc | apply Kd.R_drewN | apply Kd.R_drew)); exact HO193.out) hb); have n5_ := Aside0.mk (Kd.R_below (by (with_reducible repeat (first | apply Kd.R_alloc | apply Kd.R_drewN | apply Kd.R_drew)); exact HO196.out) hb); have n6_ := Aside0.mk (Kd.R_below (by (with_reducible repeat (first | apply Kd.R_alloc | apply Kd.R_drewN | apply Kd.R_drew)); exact HO201.out) hb); have n7_ := Aside0.mk (Kd.R_below (by (with_reducible repeat (first | apply Kd.R_alloc | apply Kd.R_drewN | apply Kd.R_drew)); exact HO204.out) hb); have n8_ := Aside0.mk (Kd.S_lower ho0 (below_size (by repeat (first | (with_reducible first | exact HB.out | apply below_alloc | apply pw_below_drewN | apply below_drew1) | exact HB.out)))); have n9_ := Aside0.mk (below_step (by repeat (first | (with_reducible first | exact HB.out | apply below_alloc | apply pw_below_drewN | apply below_drew1) | exact HB.out)) hb); clear HO179; clear HO182; clear HO185; clear HO190; clear HO193; clear HO196; clear HO201; clear HO204; clear HB; have HO179 := n0_; have HO182 := n1_; have HO185 := n2_; have HO190 := n3_; have HO193 := n4_; have HO196 := n5_; have HO201 := n6_; have HO204 := n7_; have HO209 := n8_; have HB := n9_; clear n0_ n1_ n2_ n3_ n4_ n5_ n6_ n7_ n8_ n9_; (try clear hb); (try clear hb2); (try clear hk); (try clear hi); (try clear ho0)) | ((with_reducible refine gate_dst (N := 34) rfl ?_); (try (refine gate_guard (by rfl) ?_; dsimp only)); refine Kd.R_lit (Kd.int .i64) _ 3 ?hg (N := 34) ?hd (xs := ([1, 1, 3, 4] : List Int)) (inner := [.int .i64 1, .int .i64 1, .int .i64 3, .int .i64 4]) (ok := fun _ => True) (okp := fun _ => True) ?hr ?hp (fun _ hk => hk) trivial (Below.refl _ _) (Nat.le_refl _) (by simp) ?_; (case hd => rfl); (case hg => rfl); (case hr => first | (go_simp; done) | (go_simp; rfl)); (case hp => exact (Reps.one (show Kd.M (Kd.int .i64) _ _ _ 1 [.int .i64 1] from rfl) (Reps.one (show Kd.M (Kd.int .i64) _ _ _ 1 [.int .i64 1] from rfl) (Reps.one (show Kd.M (Kd.int .i64) _ _ _ 3 [.int .i64 3] from rfl) (Reps.one (show Kd.M (Kd.int .i64) _ _ _ 4 [.int .i64 4] from rfl) (Reps.none _ _)))))); intro v211 w37 ho38 hb hg_ hnew_; clear hg_ hnew_; (first | rw [← Ny210.out] at ho38 | (simp only [Int.reduceToNat] at ho38; rw [← Ny210.out] at ho38)); have n0_ := Aside0.mk (Kd.R_below (by (with_reducible repeat (first | apply Kd.R_alloc | apply Kd.R_drewN | apply Kd.R_drew)); exact HO179.out) hb); have n1_ := Aside0.mk (Kd.R_below (by (with_reducible repeat (first | apply Kd.R_alloc | apply Kd.R_drewN | apply Kd.R_drew)); exact HO182.out) hb); have n2_ := Aside0.mk (Kd.R_elder' (by (with_reducible repeat (first | apply Kd.R_alloc | apply Kd.R_drewN | apply Kd.R_drew)); exact HO185.out) (Kd.R_base ho38) hb); have n3_ := Aside0.mk (Kd.R_below (by (with_reducible repeat (first | apply Kd.R_alloc | apply Kd.R_drewN | apply Kd.R_drew)); exact HO190.out) hb); have n4_ := Aside0.mk (Kd.R_below (by (with_reducible repeat (first | apply Kd.R_alloc | apply Kd.R_drewN | apply Kd.R_drew)); exact HO193.out) hb); have n5_ := Aside0.mk (Kd.R_elder' (by (with_reducible repeat (first | apply Kd.R_alloc | apply Kd.R_drewN | apply Kd.R_drew)); exact HO196.out) (Kd.R_base ho38) hb); have n6_ := Aside0.mk (Kd.R_below (by (with_reducible repeat (first | apply Kd.R_alloc | apply Kd.R_drewN | apply Kd.R_drew)); exact HO201.out) hb); have n7_ := Aside0.mk (Kd.R_elder' (by (with_reducible repeat (first | apply Kd.R_alloc | apply Kd.R_drewN | apply Kd.R_drew)); exact HO204.out) (Kd.R_base ho38) hb); have n8_ := Aside0.mk (Kd.S_below (by (with_reducible repeat (first | apply Kd.S_alloc | apply Kd.S_drewN | apply Kd.S_drew)); exact HO209.out) hb); have n9_ := Aside0.mk (Kd.R_lower (Kd.R_new' (Kd.R_new' (Kd.R_new' ho38 (Kd.R_lt (by (with_reducible repeat (first | apply Kd.R_alloc | apply Kd.R_drewN | apply Kd.R_drew)); exact HO185.out))) (Kd.R_lt (by (with_reducible repeat (first | apply Kd.R_alloc | apply Kd.R_drewN | apply Kd.R_drew)); exact HO196.out))) (Kd.R_lt (by (with_reducible repeat (first | apply Kd.R_alloc | apply Kd.R_drewN | apply Kd.R_drew)); exact HO204.out))) (below_size (by repeat (first | (with_reducible first | exact HB.out | apply below_alloc | apply pw_below_drewN | apply below_drew1) | exact HB.out)))); have n10_ := Aside0.mk (below_step (by repeat (first | (with_reducible first | exact HB.out | apply below_alloc | apply pw_below_drewN | apply below_drew1) | exact HB.out)) hb); clear HO179; clear HO182; clear HO185; clear HO190; clear HO193; clear HO196; clear HO201; clear HO204; clear HO209; clear HB; have HO179 := n0_; have HO182 := n1_; have HO185 := n2_; have HO190 := n3_; have HO193 := n4_; have HO196 := n5_; have HO201 := n6_; have HO204 := n7_; have HO209 := n8_; have HO212 := n9_; have HB := n10_; clear n0_ n1_ n2_ n3_ n4_ n5_ n6_ n7_ n8_ n9_ n10_; clear hb ho38; obtain ⟨Ao39, co39, eo39⟩ := Kd.R_slice HO185.out; subst eo39; obtain ⟨Ao40, co40, eo40⟩ := Kd.R_slice HO212.out; subst eo40) | (go_at_call 23; (with_reducible refine (kingpinlaw08_ints.calls k _ _ t183 _ _ y210 true _ ?side1 ?side2 ?side3 ?side4 A9.out).mono ?_); (case side1 => repeat (first | exact (Kd.R_reads' HO185.out).2.2 | (with_reducible refine Kd.C_alloc ?_ _) | (with_reducible refine Kd.C_drewN ?_ _) | (with_reducible refine Kd.C_drew ?_))); (case side2 => exact (Kd.R_reads' HO185.out).2.1); (case side3 => repeat (first | exact (Kd.R_reads' HO212.out).2.2 | (with_reducible refine Kd.C_alloc ?_ _) | (with_reducible refine Kd.C_drewN ?_ _) | (with_reducible refine Kd.C_drew ?_))); (case side4 => exact (Kd.R_reads' HO212.out).2.1); rintro e w' ⟨rfl, ⟨nd, rfl⟩⟩) | ((with_reducible refine gate_dst (N := 43) rfl ?_); (try (refine gate_guard (by rfl) ?_; dsimp only)); refine Kd.R_lit (Kd.int .i64) _ 3 ?hg (N := 43) ?hd (xs := ([2, 3, 2, 3] : List Int)) (inner := [.int .i64 2, .int .i64 3, .int .i64 2, .int .i64 3]) (ok := fun _ => True) (okp := fun _ => True) ?hr ?hp (fun _ hk => hk) trivial (Below.refl _ _) (Nat.le_refl _) (by simp) ?_; (case hd => rfl); (case hg => rfl); (case hr => first | (go_simp; done) | (go_simp; rfl)); (case hp => exact (Reps.one (show Kd.M (Kd.int .i64) _ _ _ 2 [.int .i64 2] from rfl) (Reps.one (show Kd.M (Kd.int .i64) _ _ _ 3 [.int .i64 3] from rfl) (Reps.one (show Kd.M (Kd.int .i64) _ _ _ 2 [.int .i64 2] from rfl) (Reps.one (show Kd.M (Kd.int .i64) _ _ _ 3 [.int .i64 3] from rfl) (Reps.none _ _)))))); intro v215 w41 ho42 hb hg_ hnew_; clear hg_ hnew_; (first | rw [← Ny214.out] at ho42 | (simp only [Int.reduceToNat] at ho42; rw [← Ny214.out] at ho42)); have n0_ := Aside0.mk (Kd.R_below (by (with_reducible repeat (first | apply Kd.R_alloc | apply Kd.R_drewN | apply Kd.R_drew)); exact HO179.out) hb); have n1_ := Aside0.mk (Kd.R_below (by (with_reducible repeat (first | apply Kd.R_alloc | apply Kd.R_drewN | apply Kd.R_drew)); exact HO182.out) hb); have n2_ := Aside0.mk (Kd.R_elder' (by (with_reducible repeat (first | apply Kd.R_alloc | apply Kd.R_drewN | apply Kd.R_drew)); exact HO185.out) (Kd.R_base ho42) hb); have n3_ := Aside0.mk (Kd.R_below (by (with_reducible repeat (first | apply Kd.R_alloc | apply Kd.R_drewN | apply Kd.R_drew)); exact HO190.out) hb); have n4_ := Aside0.mk (Kd.R_below (by (with_reducible repeat (first | apply Kd.R_alloc | apply Kd.R_drewN | apply Kd.R_drew)); exact HO193.out) hb); have n5_ := Aside0.mk (Kd.R_elder' (by (with_reducible repeat (first | apply Kd.R_alloc | apply Kd.R_drewN | apply Kd.R_drew)); exact HO196.out) (Kd.R_base ho42) hb); have n6_ := Aside0.mk (Kd.R_below (by (with_reducible repeat (first | apply Kd.R_alloc | apply Kd.R_drewN | apply Kd.R_drew)); exact HO201.out) hb); have n7_ := Aside0.mk (Kd.R_elder' (by (with_reducible repeat (first | apply Kd.R_alloc | apply Kd.R_drewN | apply Kd.R_drew)); exact HO204.out) (Kd.R_base ho42) hb); have n8_ := Aside0.mk (Kd.S_below (by (with_reducible repeat (first | apply Kd.S_alloc | apply Kd.S_drewN | apply Kd.S_drew)); exact HO209.out) hb); have n9_ := Aside0.mk (Kd.R_elder' (by (with_reducible repeat (first | apply Kd.R_alloc | apply Kd.R_drewN | apply Kd.R_drew)); exact HO212.out) (Kd.R_base ho42) hb); have n10_ := Aside0.mk (Kd.R_lower (Kd.R_new' (Kd.R_new' (Kd.R_new' (Kd.R_new' ho42 (Kd.R_lt (by (with_reducible repeat (first | apply Kd.R_alloc | apply Kd.R_drewN | apply Kd.R_drew)); exact HO185.out))) (Kd.R_lt (by (with_reducible repeat (first | apply Kd.R_alloc | apply Kd.R_drewN | apply Kd.R_drew)); exact HO196.out))) (Kd.R_lt (by (with_reducible repeat (first | apply Kd.R_alloc | apply Kd.R_drewN | apply Kd.R_drew)); exact HO204.out))) (Kd.R_lt (by (with_reducible repeat (first | apply Kd.R_alloc | apply Kd.R_drewN | apply Kd.R_drew)); exact HO212.out))) (below_size (by repeat (first | (with_reducible first | exact HB.out | apply below_alloc | apply pw_below_drewN | apply below_drew1) | exact HB.out)))); have n11_ := Aside0.mk (below_step (by repeat (first | (with_reducible first | exact HB.out | apply below_alloc | apply pw_below_drewN | apply below_drew1) | exact HB.out)) hb); clear HO179; clear HO182; clear HO185; clear HO190; clear HO193; clear HO196; clear HO201; clear HO204; clear HO209; clear HO212; clear HB; have HO179 := n0_; have HO182 := n1_; have HO185 := n2_; have HO190 := n3_; have HO193 := n4_; have HO196 := n5_; have HO201 := n6_; have HO204 := n7_; have HO209 := n8_; have HO212 := n9_; have HO216 := n10_; have HB := n11_; clear n0_ n1_ n2_ n3_ n4_ n5_ n6_ n7_ n8_ n9_ n10_ n11_; clear hb ho42; obtain ⟨Ao43, co43, eo43⟩ := Kd.R_slice HO196.out; subst eo43; obtain ⟨Ao44, co44, eo44⟩ := Kd.R_slice HO216.out; subst eo44) | (go_at_call 23; (with_reducible refine (kingpinlaw08_ints.calls k _ _ t194 _ _ y214 true _ ?side1 ?side2 ?side3 ?side4 A12.out).mono ?_); (case side1 => repeat (first | exact (Kd.R_reads' HO196.out).2.2 | (with_reducible refine Kd.C_alloc ?_ _) | (with_reducible refine Kd.C_drewN ?_ _) | (with_reducible refine Kd.C_drew ?_))); (case side2 => exact (Kd.R_reads' HO196.out).2.1); (case side3 => repeat (first | exact (Kd.R_reads' HO216.out).2.2 | (with_reducible refine Kd.C_alloc ?_ _) | (with_reducible refine Kd.C_drewN ?_ _) | (with_reducible refine Kd.C_drew ?_))); (case side4 => exact (Kd.R_reads' HO216.out).2.1); rintro e w' ⟨rfl, ⟨nd, rfl⟩⟩) | ((with_reducible refine gate_dst (N := 52) rfl ?_); (try (refine gate_guard (by rfl) ?_; dsimp only)); refine Kd.R_lit (Kd.int .i64) _ 3 ?hg (N := 52) ?hd (xs := ([0, 1, 3] : List Int)) (inner := [.int .i64 0, .int .i64 1, .int .i64 3]) (ok := fun _ => True) (okp := fun _ => True) ?hr ?hp (fun _ hk => hk) trivial (Below.refl _ _) (Nat.le_refl _) (by simp) ?_; (case hd => rfl); (case hg => rfl); (case hr => first | (go_simp; done) | (go_simp; rfl)); (case hp => exact (Reps.one (show Kd.M (Kd.int .i64) _ _ _ 0 [.int .i64 0] from rfl) (Reps.one (show Kd.M (Kd.int .i64) _ _ _ 1 [.int .i64 1] from rfl) (Reps.one (show Kd.M (Kd.int .i64) _ _ _ 3 [.int .i64 3] from rfl) (Reps.none _ _))))); intro v219 w45 ho46 hb hg_ hnew_; clear hg_ hnew_; (first | rw [← Ny218.out] at ho46 | (simp only [Int.reduceToNat] at ho46; rw [← Ny218.out] at ho46)); have n0_ := Aside0.mk (Kd.R_below (by (with_reducible repeat (first | apply Kd.R_alloc | apply Kd.R_drewN | apply Kd.R_drew)); exact HO179.out) hb); have n1_ := Aside0.mk (Kd.R_below (by (with_reducible repeat (first | apply Kd.R_alloc | apply Kd.R_drewN | apply Kd.R_drew)); exact HO182.out) hb); have n2_ := Aside0.mk (Kd.R_elder' (by (with_reducible repeat (first | apply Kd.R_alloc | apply Kd.R_drewN | apply Kd.R_drew)); exact HO185.out) (Kd.R_base ho46) hb); have n3_ := Aside0.mk (Kd.R_below (by (with_reducible repeat (first | apply Kd.R_alloc | apply Kd.R_drewN | apply Kd.R_drew)); exact HO190.out) hb); have n4_ := Aside0.mk (Kd.R_below (by (with_reducible repeat (first | apply Kd.R_alloc | apply Kd.R_drewN | apply Kd.R_drew)); exact HO193.out) hb); have n5_ := Aside0.mk (Kd.R_elder' (by (with_reducible repeat (first | apply Kd.R_alloc | apply Kd.R_drewN | apply Kd.R_drew)); exact HO196.out) (Kd.R_base ho46) hb); have n6_ := Aside0.mk (Kd.R_below (by (with_reducible repeat (first | apply Kd.R_alloc | apply Kd.R_drewN | apply Kd.R_drew)); exact HO201.out) hb); have n7_ := Aside0.mk (Kd.R_elder' (by (with_reducible repeat (first | apply Kd.R_alloc | apply Kd.R_drewN | apply Kd.R_drew)); exact HO204.out) (Kd.R_base ho46) hb); have n8_ := Aside0.mk (Kd.S_below (by (with_reducible repeat (first | apply Kd.S_alloc | apply Kd.S_drewN | apply Kd.S_drew)); exact HO209.out) hb); have n9_ := Aside0.mk (Kd.R_elder' (by (with_reducible repeat (first | apply Kd.R_alloc | apply Kd.R_drewN | apply Kd.R_drew)); exact HO212.out) (Kd.R_base ho46) hb); have n10_ := Aside0.mk (Kd.R_elder' (by (with_reducible repeat (first | apply Kd.R_alloc | apply Kd.R_drewN | apply Kd.R_drew)); exact HO216.out) (Kd.R_base ho46) hb); have n11_ := Aside0.mk (Kd.R_lower (Kd.R_new' (Kd.R_new' (Kd.R_new' (Kd.R_new' (Kd.R_new' ho46 (Kd.R_lt (by (with_reducible repeat (first | apply Kd.R_alloc | apply Kd.R_drewN | apply Kd.R_drew)); exact HO185.out))) (Kd.R_lt (by (with_reducible repeat (first | apply Kd.R_alloc | apply Kd.R_drewN | apply Kd.R_drew)); exact HO196.out))) (Kd.R_lt (by (with_reducible repeat (first | apply Kd.R_alloc | apply Kd.R_drewN | apply Kd.R_drew)); exact HO204.out))) (Kd.R_lt (by (with_reducible repeat (first | apply Kd.R_alloc | apply Kd.R_drewN | apply Kd.R_drew)); exact HO212.out))) (Kd.R_lt (by (with_reducible repeat (first | apply Kd.R_alloc | apply Kd.R_drewN | apply Kd.R_drew)); exact HO216.out))) (below_size (by repeat (first | (with_reducible first | exact HB.out | apply below_alloc | apply pw_below_drewN | apply below_drew1) | exact HB.out)))); have n12_ := Aside0.mk (below_step (by repeat (first | (with_reducible first | exact HB.out | apply below_alloc | apply pw_below_drewN | apply below_drew1) | exact HB.out)) hb); clear HO179; clear HO182; clear HO185; clear HO190; clear HO193; clear HO196; clear HO201; clear HO204; clear HO209; clear HO212; clear HO216; clear HB; have HO179 := n0_; have HO182 := n1_; have HO185 := n2_; have HO190 := n3_; have HO193 := n4_; have HO196 := n5_; have HO201 := n6_; have HO204 := n7_; have HO209 := n8_; have HO212 := n9_; have HO216 := n10_; have HO220 := n11_; have HB := n12_; clear n0_ n1_ n2_ n3_ n4_ n5_ n6_ n7_ n8_ n9_ n10_ n11_ n12_; clear hb ho46; obtain ⟨Ao47, co47, eo47⟩ := Kd.R_slice HO204.out; subst eo47; obtain ⟨Ao48, co48, eo48⟩ := Kd.R_slice HO220.out; subst eo48) | (go_at_call 23; (with_reducible refine (kingpinlaw08_ints.calls k _ _ t202 _ _ y218 true _ ?side1 ?side2 ?side3 ?side4 A15.out).mono ?_); (case side1 => repeat (first | exact (Kd.R_reads' HO204.out).2.2 | (with_reducible refine Kd.C_alloc ?_ _) | (with_reducible refine Kd.C_drewN ?_ _) | (with_reducible refine Kd.C_drew ?_))); (case side2 => exact (Kd.R_reads' HO204.out).2.1); (case side3 => repeat (first | exact (Kd.R_reads' HO220.out).2.2 | (with_reducible refine Kd.C_alloc ?_ _) | (with_reducible refine Kd.C_drewN ?_ _) | (with_reducible refine Kd.C_drew ?_))); (case side4 => exact (Kd.R_reads' HO220.out).2.1); rintro e w' ⟨rfl, ⟨nd, rfl⟩⟩; obtain ⟨Ao49, co49, eo49⟩ := Kd.S_slice HO209.out; subst eo49) | (go_at_call 31; (with_reducible refine (league_ProveSchedule.calls 4 _ _ t206 3 true _ ?side1 ?side2 A18.out).mono ?_); (case side1 => repeat (first | exact (Kd.S_reads' HO209.out).2.2 | (with_reducible refine Kd.C_alloc ?_ _) | (with_reducible refine Kd.C_drewN ?_ _) | (with_reducible refine Kd.C_drew ?_))); (case side2 => exact (Kd.S_reads' HO209.out).2.1); rintro e w50 ⟨rfl, hb⟩; have n0_ := Aside0.mk (Kd.R_below (by (with_reducible repeat (first | apply Kd.R_alloc | apply Kd.R_drewN | apply Kd.R_drew)); exact HO179.out) hb); have n1_ := Aside0.mk (Kd.R_below (by (with_reducible repeat (first | apply Kd.R_alloc | apply Kd.R_drewN | apply Kd.R_drew)); exact HO182.out) hb); have n2_ := Aside0.mk (Kd.R_below (by (with_reducible repeat (first | apply Kd.R_alloc | apply Kd.R_drewN | apply Kd.R_drew)); exact HO185.out) hb); have n3_ := Aside0.mk (Kd.R_below (by (with_reducible repeat (first | apply Kd.R_alloc | apply Kd.R_drewN | apply Kd.R_drew)); exact HO190.out) hb); have n4_ := Aside0.mk (Kd.R_below (by (with_reducible repeat (first | apply Kd.R_alloc | apply Kd.R_drewN | apply Kd.R_drew)); exact HO193.out) hb); have n5_ := Aside0.mk (Kd.R_below (by (with_reducible repeat (first | apply Kd.R_alloc | apply Kd.R_drewN | apply Kd.R_drew)); exact HO196.out) hb); have n6_ := Aside0.mk (Kd.R_below (by (with_reducible repeat (first | apply Kd.R_alloc | apply Kd.R_drewN | apply Kd.R_drew)); exact HO201.out) hb); have n7_ := Aside0.mk (Kd.R_below (by (with_reducible repeat (first | apply Kd.R_alloc | apply Kd.R_drewN | apply Kd.R_drew)); exact HO204.out) hb); have n8_ := Aside0.mk (Kd.S_below (by (with_reducible repeat (first | apply Kd.S_alloc | apply Kd.S_drewN | apply Kd.S_drew)); exact HO209.out) hb); have n9_ := Aside0.mk (Kd.R_below (by (with_reducible repeat (first | apply Kd.R_alloc | apply Kd.R_drewN | apply Kd.R_drew)); exact HO212.out) hb); have n10_ := Aside0.mk (Kd.R_below (by (with_reducible repeat (first | apply Kd.R_alloc | apply Kd.R_drewN | apply Kd.R_drew)); exact HO216.out) hb); have n11_ := Aside0.mk (Kd.R_below (by (with_reducible repeat (first | apply Kd.R_alloc | apply Kd.R_drewN | apply Kd.R_drew)); exact HO220.out) hb); have n12_ := Aside0.mk (below_step (by repeat (first | (with_reducible first | exact HB.out | apply below_alloc | apply pw_below_drewN | apply below_drew1) | exact HB.out)) hb); clear HO179; clear HO182; clear HO185; clear HO190; clear HO193; clear HO196; clear HO201; clear HO204; clear HO209; clear HO212; clear HO216; clear HO220; clear HB; have HO179 := n0_; have HO182 := n1_; have HO185 := n2_; have HO190 := n3_; have HO193 := n4_; have HO196 := n5_; have HO201 := n6_; have HO204 := n7_; have HO209 := n8_; have HO212 := n9_; have HO216 := n10_; have HO220 := n11_; have HB := n12_; clear n0_ n1_ n2_ n3_ n4_ n5_ n6_ n7_ n8_ n9_ n10_ n11_ n12_; (try clear hb); (try clear hb2); (try clear hk); (try clear hi)) | (go_at_call 31; (with_reducible refine (league_ProveSchedule.calls 4 _ _ t206 2 t223 _ ?side1 ?side2 A20.out).mono ?_); (case side1 => repeat (first | exact (Kd.S_reads' HO209.out).2.2 | (with_reducible refine Kd.C_alloc ?_ _) | (with_reducible refine Kd.C_drewN ?_ _) | (with_reducible refine Kd.C_drew ?_))); (case side2 => exact (Kd.S_reads' HO209.out).2.1); rintro e w51 ⟨rfl, hb⟩; have n0_ := Aside0.mk (Kd.R_below (by (with_reducible repeat (first | apply Kd.R_alloc | apply Kd.R_drewN | apply Kd.R_drew)); exact HO179.out) hb); have n1_ := Aside0.mk (Kd.R_below (by (with_reducible repeat (first | apply Kd.R_alloc | apply Kd.R_drewN | apply Kd.R_drew)); exact HO182.out) hb); have n2_ := Aside0.mk (Kd.R_below (by (with_reducible repeat (first | apply Kd.R_alloc | apply Kd.R_drewN | apply Kd.R_drew)); exact HO185.out) hb); have n3_ := Aside0.mk (Kd.R_below (by (with_reducible repeat (first | apply Kd.R_alloc | apply Kd.R_drewN | apply Kd.R_drew)); exact HO190.out) hb); have n4_ := Aside0.mk (Kd.R_below (by (with_reducible repeat (first | apply Kd.R_alloc | apply Kd.R_drewN | apply Kd.R_drew)); exact HO193.out) hb); have n5_ := Aside0.mk (Kd.R_below (by (with_reducible repeat (first | apply Kd.R_alloc | apply Kd.R_drewN | apply Kd.R_drew)); exact HO196.out) hb); have n6_ := Aside0.mk (Kd.R_below (by (with_reducible repeat (first | apply Kd.R_alloc | apply Kd.R_drewN | apply Kd.R_drew)); exact HO201.out) hb); have n7_ := Aside0.mk (Kd.R_below (by (with_reducible repeat (first | apply Kd.R_alloc | apply Kd.R_drewN | apply Kd.R_drew)); exact HO204.out) hb); have n8_ := Aside0.mk (Kd.S_below (by (with_reducible repeat (first | apply Kd.S_alloc | apply Kd.S_drewN | apply Kd.S_drew)); exact HO209.out) hb); have n9_ := Aside0.mk (Kd.R_below (by (with_reducible repeat (first | apply Kd.R_alloc | apply Kd.R_drewN | apply Kd.R_drew)); exact HO212.out) hb); have n10_ := Aside0.mk (Kd.R_below (by (with_reducible repeat (first | apply Kd.R_alloc | apply Kd.R_drewN | apply Kd.R_drew)); exact HO216.out) hb); have n11_ := Aside0.mk (Kd.R_below (by (with_reducible repeat (first | apply Kd.R_alloc | apply Kd.R_drewN | apply Kd.R_drew)); exact HO220.out) hb); have n12_ := Aside0.mk (below_step (by repeat (first | (with_reducible first | exact HB.out | apply below_alloc | apply pw_below_drewN | apply below_drew1) | exact HB.out)) hb); clear HO179; clear HO182; clear HO185; clear HO190; clear HO193; clear HO196; clear HO201; clear HO204; clear HO209; clear HO212; clear HO216; clear HO220; clear HB; have HO179 := n0_; have HO182 := n1_; have HO185 := n2_; have HO190 := n3_; have HO193 := n4_; have HO196 := n5_; have HO201 := n6_; have HO204 := n7_; have HO209 := n8_; have HO212 := n9_; have HO216 := n10_; have HO220 := n11_; have HB := n12_; clear n0_ n1_ n2_ n3_ n4_ n5_ n6_ n7_ n8_ n9_ n10_ n11_ n12_; (try clear hb); (try clear hb2); (try clear hk); (try clear hi)))
         go_ret
         exact ⟨by first | rfl | (simp [errW_none, errW_some] <;> rfl) | (simp [*, errW_none, errW_some] <;> rfl), by repeat (first | (with_reducible first | exact HB.out | apply below_alloc | apply pw_below_drewN | apply below_drew1) | exact HB.out)⟩
        ·
         rw [if_neg c19] at H
         exact absurd (H.trans (congrArg some hr)) (by simp)
       ·
        rw [if_neg c17] at H
        exact absurd (H.trans (congrArg some hr)) (by simp)
      ·
       rw [if_neg c16] at H
       exact absurd (H.trans (congrArg some hr)) (by simp)
     ·
      rw [if_neg c14] at H
      exact absurd (H.trans (congrArg some hr)) (by simp)
    ·
     rw [if_neg c13] at H
     exact absurd (H.trans (congrArg some hr)) (by simp)
   ·
    rw [if_neg c11] at H
    exact absurd (H.trans (congrArg some hr)) (by simp)
  ·
   rw [if_neg c10] at H
   exact absurd (H.trans (congrArg some hr)) (by simp)
 ·
  rw [if_neg c8] at H
  exact absurd (H.trans (congrArg some hr)) (by simp)
set_option maxRecDepth 100000 in
theorem awake_40 : awakeF 40 = some true := by kernel_rfl
def kingpinlaw08_awake.f : Option Bool := some true
theorem kingpinlaw08_awake.calls (r : Bool) (w : World) (h : kingpinlaw08_awake.f = some r) : Calls Try.prog 16 #[] w fun e w' => e = .returned (.bool r) ∧ Below w.heap.size w w' := by
 obtain rfl := Option.some.inj h
 exact awake_calls 40 true w rfl awake_40
end Go.Proofs.Ytmnamkcjldaoeaa.PAll
namespace Go.Proofs.Ytmnamkcjldaoeaa.PAll
open Go.RowKit Go.Proofs.YtmnamkcjldaoeaaW.PrintWords Go.Proofs.YtmnamkcjldaoeaaW.PrintLast Go.Proofs.YtmnamkcjldaoeaaW.PrintMore
set_option linter.unusedVariables false
set_option linter.unusedSimpArgs false
theorem awake_ev : Ev (fun _ => kingpinlaw08_awake.f) true := Ev.now true
def toG (x : S70) : S85 := ⟨x.f0, x.f1, x.f2, x.f3, x.f4⟩
theorem wrapN (n : Nat) (h : n < 4611686018427387904) : wrap64 ((n : Int) + 1) = ((n + 1 : Nat) : Int) := by
 rw [IntWalk.wrap64_in _ ⟨by omega, by omega⟩]
 omega
theorem drop70 (l : List S70) (i : Nat) (h : i < l.length) : l.drop i = rd_T70 l (i : Int) :: l.drop (i + 1) := by
 rw [List.drop_eq_getElem_cons h]
 congr 1
 unfold rd_T70
 rw [Int.toNat_natCast, List.getD_eq_getElem?_getD, List.getElem?_eq_getElem h, Option.getD_some]
theorem dropI (l : List Int) (i : Nat) (h : i < l.length) : l.drop i = rd l (i : Int) :: l.drop (i + 1) := by
 rw [List.drop_eq_getElem_cons h]
 congr 1
 unfold rd
 rw [Int.toNat_natCast, List.getD_eq_getElem?_getD, List.getElem?_eq_getElem h, Option.getD_some]
theorem League_ev (a : Int) (l : List S70) (hl : l.length ≤ 1000) : Ev (fun k => kingpinlaw08_League.f k a l) (a, l.map toG) := by
 have main : ∀ (d i : Nat) (acc : List S85), l.length - i = d → i ≤ l.length → acc.length = i → Ev (fun k => kingpinlaw08_League.l0 k (i : Int) a l a acc) (a, acc ++ (l.drop i).map toG) := by
  intro d
  induction d with
  | zero =>
   intro i acc hd hi ha
   obtain rfl : i = l.length := by omega
   refine Ev.step (f := fun _ => some (a, acc)) (fun k => ?_) ?_
   ·
    simp only [kingpinlaw08_League.l0]
    rw [if_neg (by omega)]
   ·
    simpa using Ev.now (a, acc)
  | succ d ih =>
   intro i acc hd hi ha
   refine Ev.step (f := fun k => kingpinlaw08_League.l0 k ((i + 1 : Nat) : Int) a l a (acc ++ [toG (rd_T70 l (i : Int))])) (fun k => ?_) ?_
   ·
    simp only [kingpinlaw08_League.l0]
    rw [if_pos (by omega), if_pos (by omega), if_pos (by omega), wrapN i (by omega)]
    rfl
   ·
    have := ih (i + 1) (acc ++ [toG (rd_T70 l (i : Int))]) (by omega) (by omega) (by simp [ha])
    rw [drop70 l i (by omega), List.map_cons]
    simpa using this
 have := main l.length 0 [] rfl (Nat.zero_le _) rfl
 rw [List.nil_append, List.drop_zero] at this
 exact this
theorem In_eq (a b c : Int) : kingpinref08_In.f a b c = some (decide (b ≤ a) && decide (a ≤ c)) := by
 unfold kingpinref08_In.f
 by_cases h : b ≤ a <;> simp [h]
theorem gameB_iff (n : Int) (g : S85) : gameB n g = true ↔ (0 ≤ g.f2 ∧ g.f2 ≤ 3000) ∧ (0 ≤ g.f3 ∧ g.f3 ≤ 3000) ∧ (0 ≤ g.f0 ∧ g.f0 < n) ∧ (0 ≤ g.f1 ∧ g.f1 < n) ∧ g.f0 ≠ g.f1 ∧ (g.f4 = true → g.f2 = 0 ∧ g.f3 = 0) := by
 unfold gameB
 cases h : g.f4 <;> simp [and_assoc]
theorem Fault_ev (a : Int) (l : List S70) (hl : l.length ≤ 1000) : Ev (fun k => kingpinref08_Fault.f k a l) (checkF a (l.map toG)) := by
 unfold kingpinref08_Fault.f checkF
 rw [List.length_map]
 by_cases h20 : 20 < l.length
 ·
  rw [if_pos h20]
  refine Ev.congr (f := fun _ => some 3) (fun k => ?_) (Ev.now _)
  rw [if_pos (by omega)]
 ·
  rw [if_neg h20]
  by_cases ht : teamsB a = true
  ·
   have ht2 : 2 ≤ a ∧ a ≤ 6 := by simpa [teamsB] using ht
   have main : ∀ (d i : Nat), l.length - i = d → i ≤ l.length → Ev (fun k => kingpinref08_Fault.l0 k (i : Int) a l) (if ((l.drop i).map toG).all (gameB a) then 0 else 1) := by
    intro d
    induction d with
    | zero =>
     intro i hd hi
     obtain rfl : i = l.length := by omega
     refine Ev.step (f := fun _ => some 0) (fun k => ?_) ?_
     ·
      simp only [kingpinref08_Fault.l0]
      rw [if_neg (by omega)]
     ·
      simpa using Ev.now (0 : Int)
    | succ d ih =>
     intro i hd hi
     have ih1 := ih (i + 1) (by omega) (by omega)
     rw [drop70 l i (by omega), List.map_cons, List.all_cons]
     obtain ⟨x, hx⟩ : ∃ x, rd_T70 l (i : Int) = x := ⟨_, rfl⟩
     rw [hx]
     have ha1 : wrap64 (a - 1) = a - 1 := IntWalk.wrap64_in _ ⟨by omega, by omega⟩
     have hbody : ∀ k, kingpinref08_Fault.l0 (k + 1) (i : Int) a l = if gameB a (toG x) = true then kingpinref08_Fault.l0 k ((i + 1 : Nat) : Int) a l else some 1 := by
      intro k
      simp only [kingpinref08_Fault.l0]
      rw [if_pos (by omega), if_pos (by omega), wrapN i (by omega), hx, ha1]
      simp only [In_eq, Option.bind_some, Bool.and_eq_true, decide_eq_true_eq]
      by_cases c0 : 0 ≤ x.f0 ∧ x.f0 ≤ a - 1
      ·
       by_cases c1 : 0 ≤ x.f1 ∧ x.f1 ≤ a - 1
       ·
        by_cases c2 : x.f0 = x.f1
        ·
         rw [if_pos c0, if_pos c1, if_pos c2, if_neg (fun h => absurd ((gameB_iff _ _).1 h).2.2.2.2.1 (fun h2 => h2 c2))]
        ·
         by_cases c3 : 0 ≤ x.f2 ∧ x.f2 ≤ 3000
         ·
          by_cases c4 : 0 ≤ x.f3 ∧ x.f3 ≤ 3000
          ·
           have hw : wrap64 (x.f2 + x.f3) = x.f2 + x.f3 := IntWalk.wrap64_in _ ⟨by omega, by omega⟩
           rw [hw]
           by_cases c5 : x.f4 = true
           ·
            by_cases c6 : x.f2 + x.f3 > 0
            ·
             rw [if_pos c0, if_pos c1, if_neg c2, if_pos c3, if_pos c4, if_pos c5, if_pos c6, if_neg]
             intro h
             have h9 : x.f2 = 0 ∧ x.f3 = 0 := ((gameB_iff _ _).1 h).2.2.2.2.2 c5
             omega
            ·
             rw [if_pos c0, if_pos c1, if_neg c2, if_pos c3, if_pos c4, if_pos c5, if_neg c6, if_pos]
             exact (gameB_iff _ _).2 ⟨c3, c4, ⟨c0.1, by show x.f0 < a; omega⟩, ⟨c1.1, by show x.f1 < a; omega⟩, c2, fun _ => by show x.f2 = 0 ∧ x.f3 = 0; omega⟩
           ·
            rw [if_pos c0, if_pos c1, if_neg c2, if_pos c3, if_pos c4, if_neg c5, if_pos]
            exact (gameB_iff _ _).2 ⟨c3, c4, ⟨c0.1, by show x.f0 < a; omega⟩, ⟨c1.1, by show x.f1 < a; omega⟩, c2, fun h => absurd h c5⟩
          ·
           rw [if_pos c0, if_pos c1, if_neg c2, if_pos c3, if_neg c4, if_neg (fun h => c4 ((gameB_iff _ _).1 h).2.1)]
         ·
          rw [if_pos c0, if_pos c1, if_neg c2, if_neg c3, if_neg (fun h => c3 ((gameB_iff _ _).1 h).1)]
       ·
        rw [if_pos c0, if_neg c1, if_neg]
        intro h
        have h9 : 0 ≤ x.f1 ∧ x.f1 < a := ((gameB_iff _ _).1 h).2.2.2.1
        omega
      ·
       rw [if_neg c0, if_neg]
       intro h
       have h9 : 0 ≤ x.f0 ∧ x.f0 < a := ((gameB_iff _ _).1 h).2.2.1
       omega
     refine Ev.step hbody ?_
     by_cases hg : gameB a (toG x) = true
     ·
      simp only [hg, if_true, Bool.true_and]
      exact ih1
     ·
      simp only [hg, if_false, Bool.false_and, Bool.false_eq_true]
      exact Ev.now _
   have := main l.length 0 rfl (Nat.zero_le _)
   rw [ht, Bool.true_and]
   refine Ev.congr (fun k => ?_) this
   rw [if_neg (by omega), In_eq, decide_eq_true ht2.1, decide_eq_true ht2.2]
   rfl
  ·
   have ht2 : teamsB a = false := by simpa using ht
   rw [ht2, Bool.false_and, if_neg (by decide)]
   refine Ev.congr (f := fun _ => some 1) (fun k => ?_) (Ev.now _)
   rw [if_neg (by omega), In_eq]
   unfold teamsB at ht2
   rw [ht2]
   rfl
theorem fault_ev (a : Int) (l : List S70) (hl : l.length ≤ 1000) : Ev (fun k => kingpinlaw08_fault.f k a l) (checkF a (l.map toG)) := by
 unfold kingpinlaw08_fault.f
 exact Ev.bind (Fault_ev a l hl) (Ev.now _)
theorem listed_ev (l : List Int) (m : Int) (hl : l.length ≤ 1000000) : Ev (fun k => kingpinlaw08_listed.f k l m) (l.all fun x => decide (1 ≤ x) && decide (x ≤ m)) := by
 have main : ∀ (d i : Nat), l.length - i = d → i ≤ l.length → Ev (fun k => kingpinlaw08_listed.l0 k l m (i : Int)) ((l.drop i).all fun x => decide (1 ≤ x) && decide (x ≤ m)) := by
  intro d
  induction d with
  | zero =>
   intro i hd hi
   obtain rfl : i = l.length := by omega
   refine Ev.step (f := fun _ => some true) (fun k => ?_) ?_
   ·
    simp only [kingpinlaw08_listed.l0]
    rw [if_neg (by omega)]
   ·
    simpa using Ev.now true
  | succ d ih =>
   intro i hd hi
   have ih1 := ih (i + 1) (by omega) (by omega)
   rw [dropI l i (by omega), List.all_cons]
   obtain ⟨x, hx⟩ : ∃ x, rd l (i : Int) = x := ⟨_, rfl⟩
   rw [hx]
   have hbody : ∀ k, kingpinlaw08_listed.l0 (k + 1) l m (i : Int) = if 1 ≤ x ∧ x ≤ m then kingpinlaw08_listed.l0 k l m ((i + 1 : Nat) : Int) else some false := by
    intro k
    simp only [kingpinlaw08_listed.l0]
    rw [if_pos (by omega), if_pos (by omega), wrapN i (by omega), hx]
    by_cases c1 : x < 1
    ·
     rw [if_pos c1, if_neg (by omega)]
    ·
     by_cases c2 : x > m
     ·
      rw [if_neg c1, if_pos c2, if_neg (by omega)]
     ·
      rw [if_neg c1, if_neg c2, if_pos (by omega)]
   refine Ev.step hbody ?_
   by_cases hg : 1 ≤ x ∧ x ≤ m
   ·
    simp only [hg, and_self, if_true, decide_true, Bool.true_and]
    exact ih1
   ·
    have : (decide (1 ≤ x) && decide (x ≤ m)) = false := by simpa using hg
    simp only [hg, if_false, this, Bool.false_and]
    exact Ev.now _
 have := main l.length 0 rfl (Nat.zero_le _)
 exact this
theorem ints_self (l : List Int) (hl : l.length ≤ 1000000) : Ev (fun k => kingpinlaw08_ints.f k l l) true := by
 have main : ∀ (d i : Nat), l.length - i = d → i ≤ l.length → Ev (fun k => kingpinlaw08_ints.l0 k l l (i : Int)) true := by
  intro d
  induction d with
  | zero =>
   intro i hd hi
   obtain rfl : i = l.length := by omega
   refine Ev.step (f := fun _ => some true) (fun k => ?_) (Ev.now _)
   simp only [kingpinlaw08_ints.l0]
   rw [if_neg (by omega)]
  | succ d ih =>
   intro i hd hi
   refine Ev.step (fun k => ?_) (ih (i + 1) (by omega) (by omega))
   simp only [kingpinlaw08_ints.l0]
   rw [if_pos (by omega), if_pos (by omega), if_pos (by omega), if_pos trivial, wrapN i (by omega)]
 unfold kingpinlaw08_ints.f
 refine Ev.congr (fun k => if_pos rfl) (main l.length 0 rfl (Nat.zero_le _))
theorem Has_ev (g : List Int) (v : Int) (hl : g.length ≤ 1000000) : Ev (fun k => kingpinref08_Has.f k g v) (g.contains v) := by
 have main : ∀ (d i : Nat), g.length - i = d → i ≤ g.length → Ev (fun k => kingpinref08_Has.l0 k g v (i : Int)) ((g.drop i).contains v) := by
  intro d
  induction d with
  | zero =>
   intro i hd hi
   obtain rfl : i = g.length := by omega
   refine Ev.step (f := fun _ => some false) (fun k => ?_) ?_
   ·
    simp only [kingpinref08_Has.l0]
    rw [if_neg (by omega)]
   ·
    simpa using Ev.now false
  | succ d ih =>
   intro i hd hi
   have ih1 := ih (i + 1) (by omega) (by omega)
   rw [dropI g i (by omega), List.contains_cons]
   obtain ⟨x, hx⟩ : ∃ x, rd g (i : Int) = x := ⟨_, rfl⟩
   rw [hx]
   have hbody : ∀ k, kingpinref08_Has.l0 (k + 1) g v (i : Int) = if x = v then some true else kingpinref08_Has.l0 k g v ((i + 1 : Nat) : Int) := by
    intro k
    simp only [kingpinref08_Has.l0]
    rw [if_pos (by omega), if_pos (by omega), wrapN i (by omega), hx]
   refine Ev.step hbody ?_
   by_cases hg : x = v
   ·
    subst hg
    simp only [if_true, beq_self_eq_true, Bool.true_or]
    exact Ev.now _
   ·
    have : (v == x) = false := by simpa using fun e => hg e.symm
    simp only [hg, if_false, this, Bool.false_or]
    exact ih1
 have := main g.length 0 rfl (Nat.zero_le _)
 exact this
theorem Gives_eq (x : S70) : kingpinref08_Gives.f x.f0 x.f1 x.f2 x.f3 x.f4 = some (givesF (toG x)) := by
 unfold kingpinref08_Gives.f givesF toG
 split
 ·
  rfl
 ·
  split
  ·
   rfl
  ·
   split <;> rfl
def stepN (f : Nat) (t : Int) (group : List Int) (s : Int) (g : S85) : Int := (sidesG t g).foldl (fun s p => wrap64 (s + ruleVal f p.2 group)) s
theorem numF_step (f : Nat) (t : Int) (l : List S85) (group : List Int) : numF f (sidesOf t l) group = l.foldl (stepN f t group) 0 := by
 unfold numF sidesOf
 rw [List.foldl_flatMap]
 rfl
theorem wrap_range (n : Int) : -9223372036854775808 ≤ wrap64 n ∧ wrap64 n ≤ 9223372036854775807 := by
 unfold wrap64
 omega
theorem sidesG_of (t : Int) (g : S85) (h : g.f0 ≠ g.f1) : sidesG t g = if g.f1 = t then [(g, ⟨g.f0, (givesF g).2, g.f3⟩)] else if g.f0 = t then [(g, ⟨g.f1, (givesF g).1, g.f2⟩)] else [] := by
 unfold sidesG
 by_cases h1 : g.f1 = t
 ·
  rw [if_pos h1, if_pos h1, if_neg (fun h0 => h (h0.trans h1.symm))]
  rfl
 ·
  rw [if_neg h1, if_neg h1, List.append_nil]
def inR (s : Int) : Prop := -9223372036854775808 ≤ s ∧ s ≤ 9223372036854775807
theorem Number_ev (a : Int) (l : List S70) (code t : Int) (group : List Int) (hc : 1 ≤ code ∧ code ≤ 4) (hl : l.length ≤ 1000) (hg : group.length ≤ 1000000) (hok : ∀ x ∈ l, x.f0 ≠ x.f1) :
  Ev (fun k => kingpinref08_Number.f k a l code t group) (numF (ruleFn code) (sidesOf t (l.map toG)) group) := by
 rw [numF_step]
 have main : ∀ (d i : Nat) (s : Int), l.length - i = d → i ≤ l.length → inR s → Ev (fun k => kingpinref08_Number.l0 k code t group s (i : Int) a l) (((l.drop i).map toG).foldl (stepN (ruleFn code) t group) s) := by
  intro d
  induction d with
  | zero =>
   intro i s hd hi hs
   obtain rfl : i = l.length := by omega
   refine Ev.step (f := fun _ => some s) (fun k => ?_) ?_
   ·
    simp only [kingpinref08_Number.l0]
    rw [if_neg (by omega)]
   ·
    simpa using Ev.now s
  | succ d ih =>
   intro i s hd hi hs
   have ih1 := fun s hs => ih (i + 1) s (by omega) (by omega) hs
   have hm : rd_T70 l (i : Int) ∈ l := by
    have := drop70 l i (by omega)
    exact List.mem_of_mem_drop (i := i) (by rw [this]; exact List.mem_cons_self)
   have hxo := hok _ hm
   rw [drop70 l i (by omega), List.map_cons, List.foldl_cons]
   obtain ⟨x, hx⟩ : ∃ x, rd_T70 l (i : Int) = x := ⟨_, rfl⟩
   rw [hx] at hxo ⊢
   have hbody : ∀ k, kingpinref08_Number.l0 (k + 1) code t group s (i : Int) a l =
     if x.f1 = t then kingpinref08_Number.j1 k code t group s (i : Int) (givesF (toG x)).2 x.f3 x.f0 a l else if x.f0 = t then kingpinref08_Number.j1 k code t group s (i : Int) (givesF (toG x)).1 x.f2 x.f1 a l else kingpinref08_Number.l0 k code t group s ((i + 1 : Nat) : Int) a l := by
    intro k
    simp only [kingpinref08_Number.l0]
    rw [if_pos (by omega), if_pos (by omega), wrapN i (by omega), hx, Gives_eq, Option.bind_some]
   have hj : ∀ (o p q : Int) (y : SideT), y = ⟨q, o, p⟩ → Ev (fun k => kingpinref08_Number.j1 k code t group s (i : Int) o p q a l) (((l.drop (i + 1)).map toG).foldl (stepN (ruleFn code) t group) (wrap64 (s + ruleVal (ruleFn code) y group))) := by
    intro o p q y hy
    subst hy
    have hc4 : code = 1 ∨ code = 2 ∨ code = 3 ∨ code = 4 := by omega
    rcases hc4 with rfl | rfl | rfl | rfl
    ·
     refine Ev.step (fun k => ?_) (ih1 (wrap64 (s + o)) (wrap_range _))
     simp only [kingpinref08_Number.j1]
     rw [if_pos trivial, wrapN i (by omega)]
    ·
     refine Ev.step (fun k => ?_) (ih1 (wrap64 (s + wrap64 (Int.tdiv o 2))) (wrap_range _))
     simp only [kingpinref08_Number.j1]
     rw [if_neg (by decide), if_pos trivial, wrapN i (by omega)]
    ·
     refine Ev.step (f := fun k => (kingpinref08_Has.f k group q).bind fun b => if b = true then kingpinref08_Number.l0 k 3 t group (wrap64 (s + o)) ((i + 1 : Nat) : Int) a l else kingpinref08_Number.l0 k 3 t group s ((i + 1 : Nat) : Int) a l) (fun k => ?_) ?_
     ·
      simp only [kingpinref08_Number.j1]
      rw [if_neg (by decide), if_neg (by decide), if_pos trivial, wrapN i (by omega)]
     ·
      refine Ev.bind (Has_ev group q hg) ?_
      rw [show ruleVal (ruleFn 3) ⟨q, o, p⟩ group = if group.contains q = true then o else 0 from rfl]
      cases hb : group.contains q with
      | true => exact ih1 (wrap64 (s + o)) (wrap_range _)
      | false =>
       have hs0 : wrap64 (s + 0) = s := by rw [Int.add_zero]; exact IntWalk.wrap64_in _ hs
       rw [if_neg (by decide), hs0]
       exact ih1 s hs
    ·
     refine Ev.step (fun k => ?_) (ih1 (wrap64 (s + p)) (wrap_range _))
     simp only [kingpinref08_Number.j1]
     rw [if_neg (by decide), if_neg (by decide), if_neg (by decide), if_pos trivial, wrapN i (by omega)]
   refine Ev.step hbody ?_
   have hst : stepN (ruleFn code) t group s (toG x) = if x.f1 = t then wrap64 (s + ruleVal (ruleFn code) ⟨x.f0, (givesF (toG x)).2, x.f3⟩ group) else if x.f0 = t then wrap64 (s + ruleVal (ruleFn code) ⟨x.f1, (givesF (toG x)).1, x.f2⟩ group) else s := by
    unfold stepN
    rw [sidesG_of t (toG x) hxo]
    show List.foldl _ s (if x.f1 = t then _ else if x.f0 = t then _ else _) = _
    split
    ·
     rfl
    ·
     split <;> rfl
   rw [hst]
   by_cases c1 : x.f1 = t
   ·
    simp only [if_pos c1]
    exact hj _ _ _ _ rfl
   ·
    by_cases c0 : x.f0 = t
    ·
     simp only [if_neg c1, if_pos c0]
     exact hj _ _ _ _ rfl
    ·
     simp only [if_neg c1, if_neg c0]
     exact ih1 s hs
 have := main l.length 0 0 rfl (Nat.zero_le _) ⟨by decide, by decide⟩
 rw [List.drop_zero] at this
 exact this
theorem gives_range (g : S85) : (givesF g).1 ∈ ([0, 1, 2] : List Int) ∧ (givesF g).2 ∈ ([0, 1, 2] : List Int) := by
 unfold givesF
 split
 ·
  simp
 ·
  split
  ·
   simp
  ·
   split <;> simp
theorem ruleVal_range (f : Nat) (g : S85) (n : Int) (hg : gameB n g = true) (q o p : Int) (h : (o = (givesF g).1 ∧ p = g.f2) ∨ (o = (givesF g).2 ∧ p = g.f3)) (group : List Int) : 0 ≤ ruleVal f ⟨q, o, p⟩ group ∧ ruleVal f ⟨q, o, p⟩ group ≤ 3000 := by
 have ho : o = 0 ∨ o = 1 ∨ o = 2 := by
  have := gives_range g
  simp only [List.mem_cons, List.not_mem_nil, or_false] at this
  rcases h with ⟨rfl, _⟩ | ⟨rfl, _⟩
  ·
   exact this.1
  ·
   exact this.2
 have hp : 0 ≤ p ∧ p ≤ 3000 := by
  have := (gameB_iff n g).1 hg
  rcases h with ⟨_, rfl⟩ | ⟨_, rfl⟩
  ·
   exact this.1
  ·
   exact this.2.1
 unfold ruleVal
 split
 ·
  show 0 ≤ o ∧ o ≤ 3000
  omega
 ·
  split
  ·
   show 0 ≤ wrap64 (Int.tdiv o 2) ∧ wrap64 (Int.tdiv o 2) ≤ 3000
   rcases ho with rfl | rfl | rfl <;> (unfold wrap64; decide)
  ·
   split
   ·
    split
    ·
     show 0 ≤ o ∧ o ≤ 3000
     omega
    ·
     omega
   ·
    exact hp
theorem stepN_bound (f : Nat) (t n : Int) (group : List Int) (g : S85) (hg : gameB n g = true) (s B : Int) (h0 : 0 ≤ s) (hB : s ≤ B) (hB2 : B ≤ 1000000000) : 0 ≤ stepN f t group s g ∧ stepN f t group s g ≤ B + 3000 := by
 have hne := ((gameB_iff n g).1 hg).2.2.2.2.1
 unfold stepN
 rw [sidesG_of t g hne]
 split
 ·
  have := ruleVal_range f g n hg g.f0 _ _ (.inr ⟨rfl, rfl⟩) group
  show 0 ≤ wrap64 (s + ruleVal f ⟨g.f0, (givesF g).2, g.f3⟩ group) ∧ wrap64 (s + ruleVal f ⟨g.f0, (givesF g).2, g.f3⟩ group) ≤ B + 3000
  rw [IntWalk.wrap64_in _ ⟨by omega, by omega⟩]
  omega
 ·
  split
  ·
   have := ruleVal_range f g n hg g.f1 _ _ (.inl ⟨rfl, rfl⟩) group
   show 0 ≤ wrap64 (s + ruleVal f ⟨g.f1, (givesF g).1, g.f2⟩ group) ∧ wrap64 (s + ruleVal f ⟨g.f1, (givesF g).1, g.f2⟩ group) ≤ B + 3000
   rw [IntWalk.wrap64_in _ ⟨by omega, by omega⟩]
   omega
  ·
   show 0 ≤ s ∧ s ≤ B + 3000
   omega
theorem numF_bound (f : Nat) (t n : Int) (group : List Int) (l : List S85) (hl : l.length ≤ 20) (hg : ∀ g ∈ l, gameB n g = true) : 0 ≤ numF f (sidesOf t l) group ∧ numF f (sidesOf t l) group ≤ 60000 := by
 rw [numF_step]
 have main : ∀ (l : List S85) (s B : Int), (∀ g ∈ l, gameB n g = true) → 0 ≤ s → s ≤ B → B + 3000 * l.length ≤ 1000000000 → 0 ≤ l.foldl (stepN f t group) s ∧ l.foldl (stepN f t group) s ≤ B + 3000 * l.length := by
  intro l
  induction l with
  | nil => intro s B _ h0 hB _; simpa using ⟨h0, hB⟩
  | cons g l ih =>
   intro s B hg h0 hB hb2
   rw [List.length_cons] at hb2 ⊢
   obtain ⟨h1, h2⟩ := stepN_bound f t n group g (hg g List.mem_cons_self) s B h0 hB (by omega)
   obtain ⟨h3, h4⟩ := ih _ (B + 3000) (fun x hx => hg x (List.mem_cons_of_mem _ hx)) h1 h2 (by push_cast at hb2; omega)
   rw [List.foldl_cons]
   refine ⟨h3, ?_⟩
   push_cast
   omega
 have := main l 0 0 hg (by decide) (by decide) (by omega)
 omega
end Go.Proofs.Ytmnamkcjldaoeaa.PAll
namespace Go.Proofs.Ytmnamkcjldaoeaa.PAll
open Go.RowKit Go.Proofs.YtmnamkcjldaoeaaW.PrintWords Go.Proofs.YtmnamkcjldaoeaaW.PrintLast Go.Proofs.YtmnamkcjldaoeaaW.PrintMore
set_option linter.unusedVariables false
set_option linter.unusedSimpArgs false
set_option linter.unusedSectionVars false
theorem greatest_two (a b : Int) : league_greatest.f [a, b] = some (mx a b) := rfl
def bestOf (num : Int → Int) (rest : List Int) (b : Int) : Int := rest.foldl (fun b x => mx b (num x)) b
theorem mx_le (a b : Int) : a ≤ mx a b ∧ b ≤ mx a b ∧ (mx a b = a ∨ mx a b = b) := by
 unfold mx
 split <;> omega
theorem bestOf_spec (num : Int → Int) : ∀ (rest : List Int) (b : Int), b ≤ bestOf num rest b ∧ (∀ x ∈ rest, num x ≤ bestOf num rest b) ∧ (bestOf num rest b = b ∨ ∃ x ∈ rest, num x = bestOf num rest b)
 | [], b => ⟨Int.le_refl _, by simp, .inl rfl⟩
 | y :: rest, b => by
  obtain ⟨h1, h2, h3⟩ := bestOf_spec num rest (mx b (num y))
  obtain ⟨m1, m2, m3⟩ := mx_le b (num y)
  have he : bestOf num (y :: rest) b = bestOf num rest (mx b (num y)) := rfl
  rw [he]
  refine ⟨by omega, ?_, ?_⟩
  ·
   intro x hx
   rcases List.mem_cons.1 hx with rfl | hx
   ·
    omega
   ·
    exact h2 x hx
  ·
   rcases h3 with h3 | ⟨x, hx, h3⟩
   ·
    rcases m3 with m3 | m3
    ·
     exact .inl (h3.trans m3)
    ·
     exact .inr ⟨y, List.mem_cons_self, by rw [h3, m3]⟩
   ·
    exact .inr ⟨x, List.mem_cons_of_mem _ hx, h3⟩
def fallP (num : Int → Int) : Nat → List Int → List (List Int)
 | 0, _ => []
 | d + 1, rest => if rest = [] then [] else rest.filter (fun x => decide (num x = bestOf num rest (-1))) :: fallP num d (rest.filter (fun x => !decide (num x = bestOf num rest (-1))))
theorem fallP_nil (num : Int → Int) (d : Nat) : fallP num d [] = [] := by cases d <;> simp [fallP]
theorem filter_short (num : Int → Int) (rest : List Int) (hn : rest ≠ []) (h0 : ∀ x, 0 ≤ num x) :
  (rest.filter (fun x => !decide (num x = bestOf num rest (-1)))).length < rest.length ∧ rest.filter (fun x => decide (num x = bestOf num rest (-1))) ≠ [] ∧ 0 ≤ bestOf num rest (-1) := by
 obtain ⟨h1, h2, h3⟩ := bestOf_spec num rest (-1)
 obtain ⟨y, hy⟩ := List.exists_mem_of_ne_nil rest hn
 have hb : 0 ≤ bestOf num rest (-1) := Int.le_trans (h0 y) (h2 y hy)
 rcases h3 with h3 | ⟨x, hx, h3⟩
 ·
  omega
 ·
  refine ⟨?_, ?_, hb⟩
  ·
   refine List.length_filter_lt_length_iff_exists.2 ⟨x, hx, by simp [h3]⟩
  ·
   exact List.ne_nil_of_mem (List.mem_filter.2 ⟨hx, by simp [h3]⟩)
section
variable (num : Int → Int) (a : Int) (l : List S85) (code : Int) (group : List Int)
theorem fall_l1 (hnum : ∀ x, league_table_number.f a l code x group = some (num x)) (out : List (List Int)) (rest : List Int) (hr : rest.length ≤ 1000) (R : List (List Int)) : ∀ (d i : Nat) (b : Int), rest.length - i = d → i ≤ rest.length →
  Ev (fun k => league_table_fall.l2 k group out (bestOf num (rest.drop i) b) [] [] rest (rest.length : Int) 0 a l code) R → Ev (fun k => league_table_fall.l1 k group out rest b rest (rest.length : Int) (i : Int) a l code) R := by
 intro d
 induction d with
 | zero =>
  intro i b hd hi H
  obtain rfl : i = rest.length := by omega
  rw [List.drop_length] at H
  refine Ev.step (fun k => ?_) H
  simp only [league_table_fall.l1]
  rw [if_neg (by omega)]
  rfl
 | succ d ih =>
  intro i b hd hi H
  rw [dropI rest i (by omega)] at H
  refine Ev.step (fun k => ?_) (ih (i + 1) (mx b (num (rd rest (i : Int)))) (by omega) (by omega) H)
  simp only [league_table_fall.l1]
  rw [if_pos (by omega), if_pos (by omega), if_pos (by omega), hnum, Option.bind_some, greatest_two, Option.bind_some, wrapN i (by omega)]
theorem fall_l2 (hnum : ∀ x, league_table_number.f a l code x group = some (num x)) (out : List (List Int)) (ho : out.length ≤ 1000) (b : Int) (rest : List Int) (hr : rest.length ≤ 1000) (R : List (List Int)) : ∀ (d i : Nat) (p q : List Int), rest.length - i = d → i ≤ rest.length → p.length ≤ i → q.length ≤ i →
  Ev (fun k => league_table_fall.l0 k group (out ++ [p ++ (rest.drop i).filter (fun x => decide (num x = b))]) (q ++ (rest.drop i).filter (fun x => !decide (num x = b))) a l code) R →
  Ev (fun k => league_table_fall.l2 k group out b p q rest (rest.length : Int) (i : Int) a l code) R := by
 intro d
 induction d with
 | zero =>
  intro i p q hd hi hp hq H
  obtain rfl : i = rest.length := by omega
  rw [List.drop_length] at H
  simp only [List.filter_nil, List.append_nil] at H
  refine Ev.step (fun k => ?_) H
  simp only [league_table_fall.l2]
  rw [if_neg (by omega), if_pos (by omega)]
 | succ d ih =>
  intro i p q hd hi hp hq H
  rw [dropI rest i (by omega)] at H
  by_cases hx : num (rd rest (i : Int)) = b
  ·
   rw [List.filter_cons_of_pos (by simpa using hx), List.filter_cons_of_neg (by simpa using hx)] at H
   refine Ev.step (fun k => ?_) (ih (i + 1) (p ++ [rd rest (i : Int)]) q (by omega) (by omega) (by simp; omega) (by omega) (by simpa using H))
   simp only [league_table_fall.l2]
   rw [if_pos (by omega), if_pos (by omega), if_pos (by omega), hnum, Option.bind_some, if_pos hx, if_pos (by omega), wrapN i (by omega)]
  ·
   rw [List.filter_cons_of_neg (by simpa using hx), List.filter_cons_of_pos (by simpa using hx)] at H
   refine Ev.step (fun k => ?_) (ih (i + 1) p (q ++ [rd rest (i : Int)]) (by omega) (by omega) (by omega) (by simp; omega) (by simpa using H))
   simp only [league_table_fall.l2]
   rw [if_pos (by omega), if_pos (by omega), if_pos (by omega), hnum, Option.bind_some, if_neg hx, if_pos (by omega), wrapN i (by omega)]
theorem fall_l0 (hnum : ∀ x, league_table_number.f a l code x group = some (num x)) (h0 : ∀ x, 0 ≤ num x) : ∀ (d : Nat) (rest : List Int) (out : List (List Int)), rest.length ≤ d → out.length + d ≤ 1000 →
  Ev (fun k => league_table_fall.l0 k group out rest a l code) (out ++ fallP num d rest) := by
 intro d
 induction d with
 | zero =>
  intro rest out hr ho
  obtain rfl := List.eq_nil_of_length_eq_zero (by omega : rest.length = 0)
  rw [fallP_nil, List.append_nil]
  refine Ev.step (f := fun _ => some out) (fun k => ?_) (Ev.now _)
  simp only [league_table_fall.l0]
  rw [if_neg (by simp)]
 | succ d ih =>
  intro rest out hr ho
  by_cases hn : rest = []
  ·
   subst hn
   rw [fallP_nil, List.append_nil]
   refine Ev.step (f := fun _ => some out) (fun k => ?_) (Ev.now _)
   simp only [league_table_fall.l0]
   rw [if_neg (by simp)]
  ·
   obtain ⟨s1, s2, s3⟩ := filter_short num rest hn h0
   have hl : 0 < rest.length := List.length_pos_iff.2 hn
   refine Ev.step (f := fun k => league_table_fall.l1 k group out rest (-1) rest (rest.length : Int) 0 a l code) (fun k => ?_) ?_
   ·
    simp only [league_table_fall.l0]
    rw [if_pos (by omega)]
   ·
    refine fall_l1 num a l code group hnum out rest (by omega) _ rest.length 0 (-1) rfl (Nat.zero_le _) ?_
    rw [List.drop_zero]
    refine fall_l2 num a l code group hnum out (by omega) _ rest (by omega) _ rest.length 0 [] [] rfl (Nat.zero_le _) (Nat.zero_le _) (Nat.zero_le _) ?_
    rw [List.drop_zero, List.nil_append, List.nil_append]
    have := ih (rest.filter (fun x => !decide (num x = bestOf num rest (-1)))) (out ++ [rest.filter (fun x => decide (num x = bestOf num rest (-1)))]) (by omega) (by simp; omega)
    have he : fallP num (d + 1) rest = rest.filter (fun x => decide (num x = bestOf num rest (-1))) :: fallP num d (rest.filter (fun x => !decide (num x = bestOf num rest (-1)))) := by
     rw [fallP, if_neg hn]
    rw [he]
    simpa using this
end
theorem fall_ev (num : Int → Int) (a : Int) (l : List S85) (code : Int) (group : List Int) (hg : group.length ≤ 100) (hnum : ∀ x, league_table_number.f a l code x group = some (num x)) (h0 : ∀ x, 0 ≤ num x) :
  Ev (fun k => league_table_fall.f k a l code group) (fallP num group.length group) := by
 unfold league_table_fall.f slices_Clone_int_int.f
 rw [if_pos (by omega)]
 have := fall_l0 num a l code group hnum h0 group.length group [] (Nat.le_refl _) (by simp; omega)
 rw [List.nil_append] at this
 exact this
section
variable (num : Int → Int) (a : Int) (l : List S70) (code : Int) (group : List Int)
def bestTo (num : Int → Int) (n : Int) (rest : List Int) (b : Int) : Int := rest.foldl (fun b x => if num x ≤ n then mx b (num x) else b) b
theorem bestTo_eq (num : Int → Int) (n : Int) : ∀ (rest : List Int) (b : Int), bestTo num n rest b = bestOf num (rest.filter fun x => decide (num x ≤ n)) b
 | [], b => rfl
 | y :: rest, b => by
  have he : bestTo num n (y :: rest) b = bestTo num n rest (if num y ≤ n then mx b (num y) else b) := rfl
  rw [he, bestTo_eq num n rest]
  by_cases h : num y ≤ n
  ·
   rw [if_pos h, List.filter_cons_of_pos (by simpa using h)]; rfl
  ·
   rw [if_neg h, List.filter_cons_of_neg (by simpa using h)]
theorem Fall_l1 (hnum : ∀ x, Ev (fun k => kingpinref08_Number.f k a l code x group) (num x)) (out : List (List Int)) (n : Int) (hr : group.length ≤ 1000) (R : List (List Int)) : ∀ (d i : Nat) (b : Int), group.length - i = d → i ≤ group.length →
  Ev (fun k => if bestTo num n (group.drop i) b < 0 then some out else kingpinref08_Fall.l2 k code group out (bestTo num n (group.drop i) b) [] 0 a l) R → Ev (fun k => kingpinref08_Fall.l1 k code group out n b (i : Int) a l) R := by
 intro d
 induction d with
 | zero =>
  intro i b hd hi H
  obtain rfl : i = group.length := by omega
  rw [List.drop_length] at H
  refine Ev.step (fun k => ?_) H
  simp only [kingpinref08_Fall.l1]
  rw [if_neg (by omega)]
  rfl
 | succ d ih =>
  intro i b hd hi H
  rw [dropI group i (by omega)] at H
  have h1 := ih (i + 1) (if num (rd group (i : Int)) ≤ n then mx b (num (rd group (i : Int))) else b) (by omega) (by omega) H
  refine Ev.step (f := fun k => (kingpinref08_Number.f k a l code (rd group (i : Int)) group).bind fun t => if t ≤ n then kingpinref08_Fall.l1 k code group out n (mx b t) ((i + 1 : Nat) : Int) a l else kingpinref08_Fall.l1 k code group out n b ((i + 1 : Nat) : Int) a l) (fun k => ?_) ?_
  ·
   simp only [kingpinref08_Fall.l1]
   rw [if_pos (by omega), if_pos (by omega), wrapN i (by omega)]
  ·
   refine Ev.bind (hnum _) ?_
   by_cases hx : num (rd group (i : Int)) ≤ n
   ·
    simp only [if_pos hx] at h1 ⊢
    exact h1
   ·
    simp only [if_neg hx] at h1 ⊢
    exact h1
theorem Fall_l2 (hnum : ∀ x, Ev (fun k => kingpinref08_Number.f k a l code x group) (num x)) (out : List (List Int)) (ho : out.length ≤ 1000) (n : Int) (hn : 0 ≤ n ∧ n ≤ 60000) (hr : group.length ≤ 1000) (R : List (List Int)) : ∀ (d i : Nat) (p : List Int), group.length - i = d → i ≤ group.length → p.length ≤ i →
  Ev (fun k => kingpinref08_Fall.l0 k code group (out ++ [p ++ (group.drop i).filter (fun x => decide (num x = n))]) (n - 1) a l) R → Ev (fun k => kingpinref08_Fall.l2 k code group out n p (i : Int) a l) R := by
 intro d
 induction d with
 | zero =>
  intro i p hd hi hp H
  obtain rfl : i = group.length := by omega
  rw [List.drop_length] at H
  simp only [List.filter_nil, List.append_nil] at H
  refine Ev.step (fun k => ?_) H
  simp only [kingpinref08_Fall.l2]
  rw [if_neg (by omega), if_pos (by omega), IntWalk.wrap64_in _ ⟨by omega, by omega⟩]
 | succ d ih =>
  intro i p hd hi hp H
  rw [dropI group i (by omega)] at H
  refine Ev.step (f := fun k => (kingpinref08_Number.f k a l code (rd group (i : Int)) group).bind fun t => if t = n then kingpinref08_Fall.l2 k code group out n (p ++ [rd group (i : Int)]) ((i + 1 : Nat) : Int) a l else kingpinref08_Fall.l2 k code group out n p ((i + 1 : Nat) : Int) a l) (fun k => ?_) ?_
  ·
   simp only [kingpinref08_Fall.l2]
   rw [if_pos (by omega), if_pos (by omega), wrapN i (by omega)]
   congr 1
   funext t
   split
   ·
    rw [if_pos (by omega)]
   ·
    rfl
  ·
   refine Ev.bind (hnum _) ?_
   by_cases hx : num (rd group (i : Int)) = n
   ·
    rw [List.filter_cons_of_pos (by simpa using hx)] at H
    simp only [if_pos hx]
    exact ih (i + 1) _ (by omega) (by omega) (by simp; omega) (by simpa using H)
   ·
    rw [List.filter_cons_of_neg (by simpa using hx)] at H
    simp only [if_neg hx]
    exact ih (i + 1) _ (by omega) (by omega) (by omega) (by simpa using H)
theorem Fall_l0 (hnum : ∀ x, Ev (fun k => kingpinref08_Number.f k a l code x group) (num x)) (h0 : ∀ x, 0 ≤ num x) (hr : group.length ≤ 1000) : ∀ (d : Nat) (n : Int) (out : List (List Int)), (group.filter fun x => decide (num x ≤ n)).length ≤ d → out.length + d ≤ 1000 → -1 ≤ n → n ≤ 60000 →
  Ev (fun k => kingpinref08_Fall.l0 k code group out n a l) (out ++ fallP num d (group.filter fun x => decide (num x ≤ n))) := by
 intro d
 induction d with
 | zero =>
  intro n out hd ho hn1 hn2
  have he := List.eq_nil_of_length_eq_zero (by omega : (group.filter fun x => decide (num x ≤ n)).length = 0)
  rw [he, fallP_nil, List.append_nil]
  have hend : ∀ k, kingpinref08_Fall.j1 (k + 1) code group out n false a l = some out := fun k => rfl
  by_cases hn : n ≥ 0
  ·
   refine Ev.step (f := fun k => kingpinref08_Fall.j1 k code group out n (decide ((group.length : Int) > 0)) a l) (fun k => ?_) ?_
   ·
    simp only [kingpinref08_Fall.l0]
    rw [if_pos hn]
   ·
    by_cases hg : (group.length : Int) > 0
    ·
     rw [decide_eq_true hg]
     refine Ev.step (f := fun k => kingpinref08_Fall.l1 k code group out n (-1) 0 a l) (fun k => rfl) ?_
     refine Fall_l1 num a l code group hnum out n hr _ group.length 0 (-1) rfl (Nat.zero_le _) ?_
     rw [List.drop_zero, bestTo_eq, he]
     exact Ev.now _
    ·
     rw [decide_eq_false hg]
     exact Ev.step (f := fun _ => some out) hend (Ev.now _)
  ·
   refine Ev.step (f := fun k => kingpinref08_Fall.j1 k code group out n false a l) (fun k => ?_) (Ev.step (f := fun _ => some out) hend (Ev.now _))
   simp only [kingpinref08_Fall.l0]
   rw [if_neg hn]
 | succ d ih =>
  intro n out hd ho hn1 hn2
  obtain ⟨rest, hrest⟩ : ∃ rest, (group.filter fun x => decide (num x ≤ n)) = rest := ⟨_, rfl⟩
  have hend : ∀ k, kingpinref08_Fall.j1 (k + 1) code group out n false a l = some out := fun k => rfl
  by_cases hne : rest = []
  ·
   rw [hrest, hne, fallP_nil, List.append_nil]
   by_cases hn : n ≥ 0
   ·
    refine Ev.step (f := fun k => kingpinref08_Fall.j1 k code group out n (decide ((group.length : Int) > 0)) a l) (fun k => ?_) ?_
    ·
     simp only [kingpinref08_Fall.l0]
     rw [if_pos hn]
    ·
     by_cases hg : (group.length : Int) > 0
     ·
      rw [decide_eq_true hg]
      refine Ev.step (f := fun k => kingpinref08_Fall.l1 k code group out n (-1) 0 a l) (fun k => rfl) ?_
      refine Fall_l1 num a l code group hnum out n hr _ group.length 0 (-1) rfl (Nat.zero_le _) ?_
      rw [List.drop_zero, bestTo_eq, hrest, hne]
      exact Ev.now _
     ·
      rw [decide_eq_false hg]
      exact Ev.step (f := fun _ => some out) hend (Ev.now _)
   ·
    refine Ev.step (f := fun k => kingpinref08_Fall.j1 k code group out n false a l) (fun k => ?_) (Ev.step (f := fun _ => some out) hend (Ev.now _))
    simp only [kingpinref08_Fall.l0]
    rw [if_neg hn]
  ·
   obtain ⟨s1, s2, s3⟩ := filter_short num rest hne h0
   obtain ⟨b1, b2, b3⟩ := bestOf_spec num rest (-1)
   have hmem : ∀ x, x ∈ rest ↔ x ∈ group ∧ num x ≤ n := by
    intro x
    rw [← hrest, List.mem_filter, decide_eq_true_eq]
   obtain ⟨y, hy⟩ := List.exists_mem_of_ne_nil rest hne
   have hgpos : 0 < group.length := List.length_pos_of_mem ((hmem y).1 hy).1
   have hn : n ≥ 0 := by
    have := ((hmem y).1 hy).2
    have := h0 y
    omega
   obtain ⟨b, hb⟩ : ∃ b, bestOf num rest (-1) = b := ⟨_, rfl⟩
   rw [hb] at s1 s2 s3 b1 b2 b3
   have hbn : b ≤ n := by
    rcases b3 with b3 | ⟨x, hx, b3⟩
    ·
     omega
    ·
     have := ((hmem x).1 hx).2
     omega
   have hf1 : group.filter (fun x => decide (num x = b)) = rest.filter (fun x => decide (num x = b)) := by
    rw [← hrest, List.filter_filter]
    refine List.filter_congr fun x _ => ?_
    by_cases hx : num x = b
    ·
     rw [decide_eq_true hx, decide_eq_true (by omega : num x ≤ n)]; rfl
    ·
     rw [decide_eq_false hx]; rfl
   have hf2 : group.filter (fun x => decide (num x ≤ b - 1)) = rest.filter (fun x => !decide (num x = b)) := by
    rw [← hrest, List.filter_filter]
    refine List.filter_congr fun x hx => ?_
    by_cases hxn : num x ≤ n
    ·
     have hxb := b2 x ((hmem x).2 ⟨hx, hxn⟩)
     by_cases hxe : num x = b
     ·
      rw [decide_eq_true hxe, decide_eq_false (by omega)]; rfl
     ·
      rw [decide_eq_false hxe, decide_eq_true hxn, decide_eq_true (by omega)]; rfl
    ·
     rw [decide_eq_false hxn, decide_eq_false (by omega), Bool.and_false]
   have he : fallP num (d + 1) rest = rest.filter (fun x => decide (num x = b)) :: fallP num d (rest.filter (fun x => !decide (num x = b))) := by
    rw [fallP, if_neg hne, hb]
   rw [hrest, he]
   rw [hrest] at hd
   refine Ev.step (f := fun k => kingpinref08_Fall.j1 k code group out n (decide ((group.length : Int) > 0)) a l) (fun k => ?_) ?_
   ·
    simp only [kingpinref08_Fall.l0]
    rw [if_pos hn]
   ·
    rw [decide_eq_true (by omega)]
    refine Ev.step (f := fun k => kingpinref08_Fall.l1 k code group out n (-1) 0 a l) (fun k => rfl) ?_
    refine Fall_l1 num a l code group hnum out n hr _ group.length 0 (-1) rfl (Nat.zero_le _) ?_
    rw [List.drop_zero, bestTo_eq, hrest, hb]
    simp only [if_neg (by omega : ¬ b < 0)]
    refine Fall_l2 num a l code group hnum out (by omega) b ⟨s3, by omega⟩ hr _ group.length 0 [] rfl (Nat.zero_le _) (Nat.zero_le _) ?_
    rw [List.drop_zero, List.nil_append, hf1]
    have := ih (b - 1) (out ++ [rest.filter (fun x => decide (num x = b))]) (by rw [hf2]; omega) (by simp; omega) (by omega) (by omega)
    rw [hf2] at this
    simpa using this
end
theorem Fall_ev (num : Int → Int) (a : Int) (l : List S70) (code : Int) (group : List Int) (hg : group.length ≤ 100) (hnum : ∀ x, Ev (fun k => kingpinref08_Number.f k a l code x group) (num x)) (h0 : ∀ x, 0 ≤ num x ∧ num x ≤ 60000) :
  Ev (fun k => kingpinref08_Fall.f k a l code group) (fallP num group.length group) := by
 unfold kingpinref08_Fall.f
 have hf : (group.filter fun x => decide (num x ≤ 60000)) = group := List.filter_eq_self.2 fun x _ => by have := (h0 x).2; simpa using this
 have := Fall_l0 num a l code group hnum (fun x => (h0 x).1) (by omega) group.length 60000 [] (by rw [hf]; exact Nat.le_refl _) (by simp; omega) (by decide) (by decide)
 rw [hf, List.nil_append] at this
 exact this
theorem filter_split {α : Type} (p : α → Bool) : ∀ (l : List α), (l.filter p).length + (l.filter (fun x => !p x)).length = l.length
 | [] => rfl
 | x :: l => by
  have := filter_split p l
  cases h : p x <;> simp [List.filter_cons, h] <;> omega
theorem mem_sum : ∀ (gs : List (List Int)) (g : List Int), g ∈ gs → g.length ≤ (gs.map List.length).sum
 | x :: gs, g, h => by
  rw [List.map_cons, List.sum_cons]
  rcases List.mem_cons.1 h with rfl | h
  ·
   omega
  ·
   have := mem_sum gs g h
   omega
theorem take_sum : ∀ (gs : List (List Int)) (i : Nat), ((gs.take i).map List.length).sum ≤ (gs.map List.length).sum
 | [], i => by simp
 | g :: gs, 0 => by simp
 | g :: gs, i + 1 => by
  rw [List.take_succ_cons, List.map_cons, List.map_cons, List.sum_cons, List.sum_cons]
  have := take_sum gs i
  omega
theorem fallP_inv (num : Int → Int) (h0 : ∀ x, 0 ≤ num x) : ∀ (d : Nat) (rest : List Int), ((fallP num d rest).map List.length).sum ≤ rest.length ∧ ∀ g ∈ fallP num d rest, g ≠ [] ∧ ∀ x ∈ g, x ∈ rest
 | 0, rest => by simp [fallP]
 | d + 1, rest => by
  by_cases hn : rest = []
  ·
   subst hn
   rw [fallP_nil]
   simp
  ·
   obtain ⟨s1, s2, s3⟩ := filter_short num rest hn h0
   rw [fallP, if_neg hn]
   obtain ⟨i1, i2⟩ := fallP_inv num h0 d (rest.filter (fun x => !decide (num x = bestOf num rest (-1))))
   have hs : (rest.filter (fun x => decide (num x = bestOf num rest (-1)))).length + (rest.filter (fun x => !decide (num x = bestOf num rest (-1)))).length = rest.length := by
    exact filter_split _ rest
   refine ⟨?_, ?_⟩
   ·
    rw [List.map_cons, List.sum_cons]
    omega
   ·
    intro g hg
    rcases List.mem_cons.1 hg with rfl | hg
    ·
     exact ⟨s2, fun x hx => (List.mem_filter.1 hx).1⟩
    ·
     exact ⟨(i2 g hg).1, fun x hx => (List.mem_filter.1 ((i2 g hg).2 x hx)).1⟩
def okGroups (n : Int) (gs : List (List Int)) : Prop := (gs.map List.length).sum ≤ 6 ∧ ∀ g ∈ gs, g ≠ [] ∧ ∀ x ∈ g, 0 ≤ x ∧ x < n
theorem sum_ge_len : ∀ (gs : List (List Int)), (∀ g ∈ gs, g ≠ []) → gs.length ≤ (gs.map List.length).sum
 | [], _ => Nat.zero_le _
 | g :: gs, h => by
  rw [List.length_cons, List.map_cons, List.sum_cons]
  have := sum_ge_len gs (fun x hx => h x (List.mem_cons_of_mem _ hx))
  have := List.length_pos_iff.2 (h g List.mem_cons_self)
  omega
theorem okGroups_len {n : Int} {gs : List (List Int)} (h : okGroups n gs) : gs.length ≤ 6 ∧ ∀ g ∈ gs, g.length ≤ 6 := by
 refine ⟨Nat.le_trans (sum_ge_len gs fun g hg => (h.2 g hg).1) h.1, fun g hg => ?_⟩
 have : g.length ≤ (gs.map List.length).sum := by
  exact mem_sum gs g hg
 exact Nat.le_trans this h.1
def fallAll (num : List Int → Int → Int) (gs : List (List Int)) : List (List Int) := gs.flatMap fun g => fallP (num g) g.length g
theorem fallAll_sum (num : List Int → Int → Int) (h0 : ∀ g x, 0 ≤ num g x) : ∀ (gs : List (List Int)), ((fallAll num gs).map List.length).sum ≤ (gs.map List.length).sum
 | [] => Nat.le_refl _
 | g :: gs => by
  have := fallAll_sum num h0 gs
  have h1 := (fallP_inv (num g) (h0 g) g.length g).1
  unfold fallAll at this ⊢
  rw [List.flatMap_cons, List.map_append, List.sum_append, List.map_cons, List.sum_cons]
  omega
theorem fallAll_ok {n : Int} (num : List Int → Int → Int) (h0 : ∀ g x, 0 ≤ num g x) {gs : List (List Int)} (h : okGroups n gs) : okGroups n (fallAll num gs) := by
 refine ⟨Nat.le_trans (fallAll_sum num h0 gs) h.1, fun g hg => ?_⟩
 obtain ⟨g', h1, h2⟩ := List.mem_flatMap.1 hg
 obtain ⟨i1, i2⟩ := (fallP_inv (num g') (h0 g') g'.length g').2 g h2
 exact ⟨i1, fun x hx => (h.2 g' h1).2 x (i2 x hx)⟩
def numOf (l : List S85) (code : Int) (g : List Int) (x : Int) : Int := numF (ruleFn code) (sidesOf x l) g
def groupsOf (l : List S85) (rules : List Int) (gs : List (List Int)) : List (List Int) := rules.foldl (fun gs r => fallAll (numOf l r) gs) gs
def setAll (out : List Int) (g : List Int) (r : Int) : List Int := g.foldl (fun o x => o.set x.toNat r) out
def outsOf : List (List Int) → List Int → Int → List Int
 | [], out, _ => out
 | g :: gs, out, r => outsOf gs (setAll out g r) (r + g.length)
theorem setAll_len : ∀ (g : List Int) (out : List Int) (r : Int), (setAll out g r).length = out.length
 | [], out, r => rfl
 | x :: g, out, r => (setAll_len g (out.set x.toNat r) r).trans List.length_set
def teamsL (n : Int) : List Int := (List.range n.toNat).map fun (i : Nat) => (i : Int)
theorem rdL3 (gs : List (List Int)) (i : Nat) (h : i < gs.length) : gs.drop i = rd_L3 gs (i : Int) :: gs.drop (i + 1) := by
 rw [List.drop_eq_getElem_cons h]
 congr 1
 unfold rd_L3
 rw [Int.toNat_natCast, List.getD_eq_getElem?_getD, List.getElem?_eq_getElem h, Option.getD_some]
theorem mem_drop_of {α : Type} {l : List α} {i : Nat} {x : α} {ys : List α} (h : l.drop i = x :: ys) : x ∈ l := List.mem_of_mem_drop (i := i) (by rw [h]; exact List.mem_cons_self)
section
variable (n : Int) (l : List S85) (n2 : 2 ≤ n) (n6 : n ≤ 6)
include n2 n6
theorem Rank_l4 (gs : List (List Int)) (j : Int) (g : List Int) (hg : g.length ≤ 1000) (hgx : ∀ x ∈ g, 0 ≤ x ∧ x < n) (r : Int) (R : List Int × Int) : ∀ (d i : Nat) (out : List Int), g.length - i = d → i ≤ g.length → out.length = n.toNat →
  Ev (fun k => league_Rank.l3 k (setAll out (g.drop i) r) (wrap64 (r + (g.length : Int))) gs (gs.length : Int) (wrap64 (j + 1))) R → Ev (fun k => league_Rank.l4 k out r g gs (gs.length : Int) j g (g.length : Int) (i : Int)) R := by
 intro d
 induction d with
 | zero =>
  intro i out hd hi ho H
  obtain rfl : i = g.length := by omega
  rw [List.drop_length] at H
  refine Ev.step (fun k => ?_) H
  simp only [league_Rank.l4]
  rw [if_neg (by omega)]
  rfl
 | succ d ih =>
  intro i out hd hi ho H
  have hx := hgx _ (mem_drop_of (dropI g i (by omega)))
  rw [dropI g i (by omega)] at H
  refine Ev.step (fun k => ?_) (ih (i + 1) (out.set (rd g (i : Int)).toNat r) (by omega) (by omega) (by rw [List.length_set]; exact ho) H)
  simp only [league_Rank.l4]
  rw [if_pos (by omega), if_pos (by omega), if_pos (by omega), if_pos hx.1, if_pos (by omega), wrapN i (by omega)]
theorem Rank_l3 (gs : List (List Int)) (hgs : okGroups n gs) : ∀ (d i : Nat) (out : List Int) (r : Int), gs.length - i = d → i ≤ gs.length → out.length = n.toNat → 0 ≤ r → r + 6 * (gs.length - i : Nat) ≤ 1000 →
  Ev (fun k => league_Rank.l3 k out r gs (gs.length : Int) (i : Int)) (outsOf (gs.drop i) out r, 0) := by
 intro d
 induction d with
 | zero =>
  intro i out r hd hi ho hr hr2
  obtain rfl : i = gs.length := by omega
  rw [List.drop_length]
  refine Ev.step (f := fun _ => some (out, 0)) (fun k => ?_) (Ev.now _)
  simp only [league_Rank.l3]
  rw [if_neg (by omega)]
 | succ d ih =>
  intro i out r hd hi ho hr hr2
  have hl := okGroups_len hgs
  have hm := mem_drop_of (rdL3 gs i (by omega))
  have hgl := hl.2 _ hm
  rw [rdL3 gs i (by omega)]
  refine Ev.step (f := fun k => league_Rank.l4 k out r (rd_L3 gs (i : Int)) gs (gs.length : Int) (i : Int) (rd_L3 gs (i : Int)) ((rd_L3 gs (i : Int)).length : Int) ((0 : Nat) : Int)) (fun k => ?_) ?_
  ·
   simp only [league_Rank.l3]
   rw [if_pos (by omega), if_pos (by omega), if_pos (by omega)]
   rfl
  ·
   refine Rank_l4 n n2 n6 gs (i : Int) (rd_L3 gs (i : Int)) (by omega) (hgs.2 _ hm).2 r _ _ 0 out rfl (Nat.zero_le _) ho ?_
   rw [List.drop_zero, IntWalk.wrap64_in _ ⟨by omega, by omega⟩, wrapN i (by omega)]
   exact ih (i + 1) _ _ (by omega) (by omega) (by rw [setAll_len]; exact ho) (by omega) (by omega)
theorem Rank_l2 (hl : ∀ g ∈ l, gameB n g = true) (hll : l.length ≤ 20) (rules : List Int) (j : Int) (code : Int) (gs : List (List Int)) (hgs : okGroups n gs) (R : List Int × Int) : ∀ (d i : Nat) (acc : List (List Int)), gs.length - i = d → i ≤ gs.length → acc = fallAll (numOf l code) (gs.take i) →
  Ev (fun k => league_Rank.l1 k (acc ++ fallAll (numOf l code) (gs.drop i)) rules (rules.length : Int) (wrap64 (j + 1)) n l n l) R →
  Ev (fun k => league_Rank.l2 k code acc rules (rules.length : Int) j gs (gs.length : Int) (i : Int) n l n l) R := by
 have h0 : ∀ g x, 0 ≤ numOf l code g x := fun g x => (numF_bound (ruleFn code) x n g l hll hl).1
 intro d
 induction d with
 | zero =>
  intro i acc hd hi ha H
  obtain rfl : i = gs.length := by omega
  rw [List.drop_length] at H
  refine Ev.step (fun k => ?_) H
  simp only [league_Rank.l2]
  rw [if_neg (by omega)]
  simp [fallAll]
 | succ d ih =>
  intro i acc hd hi ha H
  have hm := mem_drop_of (rdL3 gs i (by omega))
  have hlg := okGroups_len hgs
  have hgl := hlg.2 _ hm
  obtain ⟨g, hg⟩ : ∃ g, rd_L3 gs (i : Int) = g := ⟨_, rfl⟩
  have hdr := rdL3 gs i (by omega)
  rw [hg] at hdr hm hgl
  rw [hdr] at H
  have htk : gs.take (i + 1) = gs.take i ++ [g] := by
   rw [List.take_succ_eq_append_getElem (by omega)]
   congr 2
   rw [← hg]
   unfold rd_L3
   rw [Int.toNat_natCast, List.getD_eq_getElem?_getD, List.getElem?_eq_getElem (by omega), Option.getD_some]
  have hacc : (acc ++ fallP (numOf l code g) g.length g) = fallAll (numOf l code) (gs.take (i + 1)) := by
   rw [htk, ha]
   simp [fallAll, List.flatMap_append]
  have hlen : acc.length + (fallP (numOf l code g) g.length g).length ≤ 6 := by
   rw [← List.length_append, hacc]
   have hok : okGroups n (gs.take (i + 1)) := ⟨Nat.le_trans (take_sum gs (i + 1)) hgs.1, fun x hx => hgs.2 x (List.mem_of_mem_take hx)⟩
   exact (okGroups_len (fallAll_ok _ h0 hok)).1
  refine Ev.step (f := fun k => (league_table_fall.f k n l code g).bind fun t => if acc.length + t.length < 5864062014805 then league_Rank.l2 k code (acc ++ t) rules (rules.length : Int) j gs (gs.length : Int) ((i + 1 : Nat) : Int) n l n l else none) (fun k => ?_) ?_
  ·
   simp only [league_Rank.l2]
   rw [if_pos (by omega), if_pos (by omega), if_pos (by omega), hg, wrapN i (by omega)]
   rfl
  ·
   refine Ev.bind (fall_ev (numOf l code g) n l code g (by omega) (fun x => rfl) (h0 g)) ?_
   simp only [if_pos (by omega : acc.length + (fallP (numOf l code g) g.length g).length < 5864062014805)]
   refine ih (i + 1) _ (by omega) (by omega) hacc ?_
   simpa [fallAll] using H
theorem Rank_l1 (hl : ∀ g ∈ l, gameB n g = true) (hll : l.length ≤ 20) (rules : List Int) (hr : rules.length ≤ 1000) : ∀ (d i : Nat) (gs : List (List Int)), rules.length - i = d → i ≤ rules.length → okGroups n gs →
  Ev (fun k => league_Rank.l1 k gs rules (rules.length : Int) (i : Int) n l n l) (outsOf (groupsOf l (rules.drop i) gs) (List.replicate n.toNat 0) 1, 0) := by
 intro d
 induction d with
 | zero =>
  intro i gs hd hi hgs
  obtain rfl : i = rules.length := by omega
  rw [List.drop_length]
  refine Ev.step (f := fun k => league_Rank.l3 k (List.replicate n.toNat 0) 1 gs (gs.length : Int) 0) (fun k => ?_) ?_
  ·
   simp only [league_Rank.l1]
   rw [if_neg (by omega), if_pos (by omega), if_pos (by omega)]
  ·
   have := Rank_l3 n n2 n6 gs hgs gs.length 0 (List.replicate n.toNat 0) 1 rfl (Nat.zero_le _) List.length_replicate (by decide) (by have := (okGroups_len hgs).1; omega)
   rw [List.drop_zero] at this
   exact this
 | succ d ih =>
  intro i gs hd hi hgs
  have h0 : ∀ g x, 0 ≤ numOf l (rd rules (i : Int)) g x := fun g x => (numF_bound (ruleFn (rd rules (i : Int))) x n g l hll hl).1
  rw [dropI rules i (by omega)]
  refine Ev.step (f := fun k => league_Rank.l2 k (rd rules (i : Int)) [] rules (rules.length : Int) (i : Int) gs (gs.length : Int) ((0 : Nat) : Int) n l n l) (fun k => ?_) ?_
  ·
   simp only [league_Rank.l1]
   rw [if_pos (by omega), if_pos (by omega), if_pos (by omega)]
   rfl
  ·
   refine Rank_l2 n l n2 n6 hl hll rules (i : Int) (rd rules (i : Int)) gs hgs _ gs.length 0 [] rfl (Nat.zero_le _) (by simp [fallAll]) ?_
   rw [List.drop_zero, List.nil_append, wrapN i (by omega)]
   exact ih (i + 1) _ (by omega) (by omega) (fallAll_ok _ h0 hgs)
theorem teams_ok : okGroups n [teamsL n] := by
 refine ⟨?_, ?_⟩
 ·
  simp [teamsL]
  omega
 ·
  intro g hg
  rw [List.mem_singleton] at hg
  subst hg
  refine ⟨?_, fun x hx => ?_⟩
  ·
   intro h
   have : (teamsL n).length = n.toNat := by simp [teamsL]
   rw [h] at this
   simp at this
   omega
  ·
   obtain ⟨i, hi, rfl⟩ := List.mem_map.1 hx
   have := List.mem_range.1 hi
   omega
theorem Rank_l0 (rules : List Int) : ∃ c, ∀ k, league_Rank.l0 (k + c) rules (List.replicate n.toNat 0) n 0 n l n l = league_Rank.l1 k [teamsL n] rules (rules.length : Int) 0 n l n l := by
 have : n = 2 ∨ n = 3 ∨ n = 4 ∨ n = 5 ∨ n = 6 := by omega
 rcases this with rfl | rfl | rfl | rfl | rfl
 ·
  exact ⟨3, fun k => by kernel_rfl⟩
 ·
  exact ⟨4, fun k => by kernel_rfl⟩
 ·
  exact ⟨5, fun k => by kernel_rfl⟩
 ·
  exact ⟨6, fun k => by kernel_rfl⟩
 ·
  exact ⟨7, fun k => by kernel_rfl⟩
end
theorem Ev.shift {α : Type} {g f : Nat → Option α} {r : α} (c : Nat) (h : ∀ k, g (k + c) = f k) (k : Ev f r) : Ev g r := by
 obtain ⟨K, k⟩ := k
 refine ⟨K + c, fun n hn => ?_⟩
 obtain ⟨m, rfl⟩ : ∃ m, n = m + c := ⟨n - c, by omega⟩
 rw [h]
 exact k m (by omega)
def rankOf (n : Int) (l : List S85) (rules : List Int) : List Int := outsOf (groupsOf l rules [teamsL n]) (List.replicate n.toNat 0) 1
def rankF (n : Int) (l : List S85) (rules : List Int) : List Int × Int :=
 if checkF n l ≠ 0 then ([], checkF n l) else if 6 < rules.length then ([], 3) else if rules.all ruleB = true then (rankOf n l rules, 0) else ([], 2)
theorem Rank_ev (n : Int) (l : List S85) (rules : List Int) : Ev (fun k => league_Rank.f k n l rules) (rankF n l rules) := by
 unfold league_Rank.f rankF league_CheckLeague.f league_all_uint8.f
 simp only [Option.bind_some]
 by_cases hc : checkF n l = 0
 ·
  simp only [hc, if_true, ne_eq, not_true_eq_false, if_false]
  obtain ⟨h20, n2, n6, hok⟩ := check_ok hc
  by_cases h6 : 6 < rules.length
  ·
   simp only [if_pos h6, if_pos (show (rules.length : Int) > 6 by omega)]
   exact Ev.now _
  ·
   simp only [if_neg h6, if_neg (show ¬ (rules.length : Int) > 6 by omega)]
   by_cases hr : rules.all ruleB = true
   ·
    simp only [if_pos hr, if_pos (show (0 : Int) ≤ n by omega), if_pos (show n.toNat ≤ 35184372088832 by omega)]
    obtain ⟨c, hcc⟩ := Rank_l0 n l n2 n6 rules
    refine Ev.shift c hcc ?_
    have := Rank_l1 n l n2 n6 hok h20 rules (by omega) rules.length 0 [teamsL n] rfl (Nat.zero_le _) (teams_ok n n2 n6)
    rw [List.drop_zero] at this
    exact this
   ·
    simp only [if_neg hr]
    exact Ev.now _
 ·
  simp only [if_neg hc, ne_eq, hc, not_false_eq_true, if_true]
  exact Ev.now _
section
variable (n : Int) (l : List S70) (n2 : 2 ≤ n) (n6 : n ≤ 6)
include n2 n6
theorem RRank_l4 (gs : List (List Int)) (j : Nat) (hj : j < gs.length) (hjj : gs.length ≤ 1000) (hg : (rd_L3 gs (j : Int)).length ≤ 1000) (hgx : ∀ x ∈ rd_L3 gs (j : Int), 0 ≤ x ∧ x < n) (r : Int) (R : List Int) : ∀ (d i : Nat) (out : List Int), (rd_L3 gs (j : Int)).length - i = d → i ≤ (rd_L3 gs (j : Int)).length → out.length = n.toNat →
  Ev (fun k => kingpinref08_Rank.l3 k gs (setAll out ((rd_L3 gs (j : Int)).drop i) r) (wrap64 (r + ((rd_L3 gs (j : Int)).length : Int))) ((j + 1 : Nat) : Int)) R → Ev (fun k => kingpinref08_Rank.l4 k gs out r (j : Int) (i : Int)) R := by
 intro d
 induction d with
 | zero =>
  intro i out hd hi ho H
  obtain rfl : i = (rd_L3 gs (j : Int)).length := by omega
  rw [List.drop_length] at H
  refine Ev.step (fun k => ?_) H
  simp only [kingpinref08_Rank.l4]
  rw [if_pos (by omega), if_pos (by omega), if_neg (by omega), wrapN j (by omega)]
  rfl
 | succ d ih =>
  intro i out hd hi ho H
  have hx := hgx _ (mem_drop_of (dropI (rd_L3 gs (j : Int)) i (by omega)))
  rw [dropI (rd_L3 gs (j : Int)) i (by omega)] at H
  refine Ev.step (fun k => ?_) (ih (i + 1) (out.set (rd (rd_L3 gs (j : Int)) (i : Int)).toNat r) (by omega) (by omega) (by rw [List.length_set]; exact ho) H)
  simp only [kingpinref08_Rank.l4]
  rw [if_pos (by omega), if_pos (by omega), if_pos (by omega), if_pos (by omega), if_pos hx.1, if_pos (by omega), wrapN i (by omega)]
theorem RRank_l3 (gs : List (List Int)) (hgs : okGroups n gs) : ∀ (d i : Nat) (out : List Int) (r : Int), gs.length - i = d → i ≤ gs.length → out.length = n.toNat → 0 ≤ r → r + 6 * (gs.length - i : Nat) ≤ 1000 →
  Ev (fun k => kingpinref08_Rank.l3 k gs out r (i : Int)) (outsOf (gs.drop i) out r) := by
 intro d
 induction d with
 | zero =>
  intro i out r hd hi ho hr hr2
  obtain rfl : i = gs.length := by omega
  rw [List.drop_length]
  refine Ev.step (f := fun _ => some out) (fun k => ?_) (Ev.now _)
  simp only [kingpinref08_Rank.l3]
  rw [if_neg (by omega)]
 | succ d ih =>
  intro i out r hd hi ho hr hr2
  have hl := okGroups_len hgs
  have hm := mem_drop_of (rdL3 gs i (by omega))
  have hgl := hl.2 _ hm
  rw [rdL3 gs i (by omega)]
  refine Ev.step (f := fun k => kingpinref08_Rank.l4 k gs out r (i : Int) ((0 : Nat) : Int)) (fun k => ?_) ?_
  ·
   simp only [kingpinref08_Rank.l3]
   rw [if_pos (by omega)]
   rfl
  ·
   refine RRank_l4 n n2 n6 gs i (by omega) (by omega) (by omega) (hgs.2 _ hm).2 r _ _ 0 out rfl (Nat.zero_le _) ho ?_
   rw [List.drop_zero, IntWalk.wrap64_in _ ⟨by omega, by omega⟩]
   exact ih (i + 1) _ _ (by omega) (by omega) (by rw [setAll_len]; exact ho) (by omega) (by omega)
theorem RRank_l2 (hl : ∀ x ∈ l, gameB n (toG x) = true) (hll : l.length ≤ 20) (rules : List Int) (hr : ∀ r ∈ rules, 1 ≤ r ∧ r ≤ 4) (j : Nat) (hj : j < rules.length) (hjj : rules.length ≤ 1000) (gs : List (List Int)) (hgs : okGroups n gs) (R : List Int) : ∀ (d i : Nat) (acc : List (List Int)), gs.length - i = d → i ≤ gs.length → acc = fallAll (numOf (l.map toG) (rd rules (j : Int))) (gs.take i) →
  Ev (fun k => kingpinref08_Rank.l1 k rules (acc ++ fallAll (numOf (l.map toG) (rd rules (j : Int))) (gs.drop i)) ((j + 1 : Nat) : Int) n l) R →
  Ev (fun k => kingpinref08_Rank.l2 k rules gs (j : Int) acc (i : Int) n l) R := by
 have hmm : ∀ g ∈ l.map toG, gameB n g = true := by
  intro g hg
  obtain ⟨x, hx, rfl⟩ := List.mem_map.1 hg
  exact hl x hx
 obtain ⟨code, hcode⟩ : ∃ code, rd rules (j : Int) = code := ⟨_, rfl⟩
 have hcm : code ∈ rules := by rw [← hcode]; exact mem_drop_of (dropI rules j hj)
 have h01 : ∀ g x, 0 ≤ numOf (l.map toG) code g x ∧ numOf (l.map toG) code g x ≤ 60000 := fun g x => numF_bound (ruleFn code) x n g (l.map toG) (by rw [List.length_map]; exact hll) hmm
 have h0 := fun g x => (h01 g x).1
 rw [hcode]
 intro d
 induction d with
 | zero =>
  intro i acc hd hi ha H
  obtain rfl : i = gs.length := by omega
  rw [List.drop_length] at H
  refine Ev.step (fun k => ?_) H
  simp only [kingpinref08_Rank.l2]
  rw [if_neg (by omega), wrapN j (by omega)]
  simp [fallAll]
 | succ d ih =>
  intro i acc hd hi ha H
  have hm := mem_drop_of (rdL3 gs i (by omega))
  have hlg := okGroups_len hgs
  have hgl := hlg.2 _ hm
  obtain ⟨g, hg⟩ : ∃ g, rd_L3 gs (i : Int) = g := ⟨_, rfl⟩
  have hdr := rdL3 gs i (by omega)
  rw [hg] at hdr hm hgl
  rw [hdr] at H
  have htk : gs.take (i + 1) = gs.take i ++ [g] := by
   rw [List.take_succ_eq_append_getElem (by omega)]
   congr 2
   rw [← hg]
   unfold rd_L3
   rw [Int.toNat_natCast, List.getD_eq_getElem?_getD, List.getElem?_eq_getElem (by omega), Option.getD_some]
  have hacc : (acc ++ fallP (numOf (l.map toG) code g) g.length g) = fallAll (numOf (l.map toG) code) (gs.take (i + 1)) := by
   rw [htk, ha]
   simp [fallAll, List.flatMap_append]
  have hlen : acc.length + (fallP (numOf (l.map toG) code g) g.length g).length ≤ 6 := by
   rw [← List.length_append, hacc]
   have hok : okGroups n (gs.take (i + 1)) := ⟨Nat.le_trans (take_sum gs (i + 1)) hgs.1, fun x hx => hgs.2 x (List.mem_of_mem_take hx)⟩
   exact (okGroups_len (fallAll_ok _ h0 hok)).1
  refine Ev.step (f := fun k => (kingpinref08_Fall.f k n l code g).bind fun t => if acc.length + t.length < 5864062014805 then kingpinref08_Rank.l2 k rules gs (j : Int) (acc ++ t) ((i + 1 : Nat) : Int) n l else none) (fun k => ?_) ?_
  ·
   simp only [kingpinref08_Rank.l2]
   rw [if_pos (by omega), if_pos (by omega), if_pos (by omega), if_pos (by omega), hg, hcode, wrapN i (by omega)]
  ·
   refine Ev.bind (Fall_ev (numOf (l.map toG) code g) n l code g (by omega) (fun x => Number_ev n l code x g (hr code hcm) (by omega) (by omega) (fun y hy => ((gameB_iff n _).1 (hl y hy)).2.2.2.2.1)) (h01 g)) ?_
   simp only [if_pos (by omega : acc.length + (fallP (numOf (l.map toG) code g) g.length g).length < 5864062014805)]
   refine ih (i + 1) _ (by omega) (by omega) hacc ?_
   simpa [fallAll] using H
theorem RRank_l1 (hl : ∀ x ∈ l, gameB n (toG x) = true) (hll : l.length ≤ 20) (rules : List Int) (hr : ∀ r ∈ rules, 1 ≤ r ∧ r ≤ 4) (hrl : rules.length ≤ 1000) : ∀ (d i : Nat) (gs : List (List Int)), rules.length - i = d → i ≤ rules.length → okGroups n gs →
  Ev (fun k => kingpinref08_Rank.l1 k rules gs (i : Int) n l) (outsOf (groupsOf (l.map toG) (rules.drop i) gs) (List.replicate n.toNat 0) 1) := by
 have hmm : ∀ g ∈ l.map toG, gameB n g = true := by
  intro g hg
  obtain ⟨x, hx, rfl⟩ := List.mem_map.1 hg
  exact hl x hx
 intro d
 induction d with
 | zero =>
  intro i gs hd hi hgs
  obtain rfl : i = rules.length := by omega
  rw [List.drop_length]
  refine Ev.step (f := fun k => kingpinref08_Rank.l3 k gs (List.replicate n.toNat 0) 1 0) (fun k => ?_) ?_
  ·
   simp only [kingpinref08_Rank.l1]
   rw [if_neg (by omega), if_pos (by omega), if_pos (by omega)]
  ·
   have := RRank_l3 n n2 n6 gs hgs gs.length 0 (List.replicate n.toNat 0) 1 rfl (Nat.zero_le _) List.length_replicate (by decide) (by have := (okGroups_len hgs).1; omega)
   rw [List.drop_zero] at this
   exact this
 | succ d ih =>
  intro i gs hd hi hgs
  have h0 : ∀ g x, 0 ≤ numOf (l.map toG) (rd rules (i : Int)) g x := fun g x => (numF_bound (ruleFn (rd rules (i : Int))) x n g (l.map toG) (by rw [List.length_map]; exact hll) hmm).1
  rw [dropI rules i (by omega)]
  refine Ev.step (f := fun k => kingpinref08_Rank.l2 k rules gs (i : Int) [] ((0 : Nat) : Int) n l) (fun k => ?_) ?_
  ·
   simp only [kingpinref08_Rank.l1]
   rw [if_pos (by omega)]
   rfl
  ·
   refine RRank_l2 n l n2 n6 hl hll rules hr i (by omega) hrl gs hgs _ gs.length 0 [] rfl (Nat.zero_le _) (by simp [fallAll]) ?_
   rw [List.drop_zero, List.nil_append]
   exact ih (i + 1) _ (by omega) (by omega) (fallAll_ok _ h0 hgs)
theorem RRank_l0 (rules : List Int) : ∃ c, ∀ k, kingpinref08_Rank.l0 (k + c) rules [] 0 n l = kingpinref08_Rank.l1 k rules [teamsL n] 0 n l := by
 have : n = 2 ∨ n = 3 ∨ n = 4 ∨ n = 5 ∨ n = 6 := by omega
 rcases this with rfl | rfl | rfl | rfl | rfl
 ·
  exact ⟨3, fun k => by kernel_rfl⟩
 ·
  exact ⟨4, fun k => by kernel_rfl⟩
 ·
  exact ⟨5, fun k => by kernel_rfl⟩
 ·
  exact ⟨6, fun k => by kernel_rfl⟩
 ·
  exact ⟨7, fun k => by kernel_rfl⟩
end
theorem RRank_ev (n : Int) (l : List S70) (rules : List Int) (hc : checkF n (l.map toG) = 0) (hr : ∀ r ∈ rules, 1 ≤ r ∧ r ≤ 4) (hrl : rules.length ≤ 1000) : Ev (fun k => kingpinref08_Rank.f k n l rules) (rankOf n (l.map toG) rules) := by
 obtain ⟨h20, n2, n6, hok⟩ := check_ok hc
 rw [List.length_map] at h20
 unfold kingpinref08_Rank.f
 obtain ⟨c, hcc⟩ := RRank_l0 n l n2 n6 rules
 refine Ev.shift c hcc ?_
 have := RRank_l1 n l n2 n6 (fun x hx => hok _ (List.mem_map.2 ⟨x, hx, rfl⟩)) h20 rules hr hrl rules.length 0 [teamsL n] rfl (Nat.zero_le _) (teams_ok n n2 n6)
 rw [List.drop_zero] at this
 exact this
end Go.Proofs.Ytmnamkcjldaoeaa.PAll
namespace Go.Proofs.Ytmnamkcjldaoeaa.PAll
open Go.RowKit Go.Proofs.YtmnamkcjldaoeaaW.PrintWords Go.Proofs.YtmnamkcjldaoeaaW.PrintLast Go.Proofs.YtmnamkcjldaoeaaW.PrintMore
attribute [local go_sem] max2_int min2_int max_two min_two max_three min_three max_four min_four   -- for this text's walks alone
set_option linter.unusedVariables false
set_option linter.unusedSimpArgs false
mutual
def kingpinlaw08_LeagueRanks.j0 : Nat → List Int → Bool → Int → List (S70) → Option (Bool)
 | 0, _, _, _, _ => none
 | k + 1, x1, x16, x240000, x240001 => if x16 = true then ((kingpinlaw08_awake.f).bind fun t241 => (some t241)) else ((kingpinlaw08_League.f k x240000 x240001).bind fun bt242 => ((league_CheckLeague.f bt242.1 bt242.2).bind fun t246 => ((kingpinlaw08_League.f k x240000 x240001).bind fun bt247 => ((kingpinlaw08_codes.f x1).bind fun t251 => ((league_Rank.f k bt247.1 bt247.2 t251).bind fun bt254 => ((kingpinlaw08_fault.f k x240000 x240001).bind fun t258 => (if t246 = t258 then (if t258 = 0 then (kingpinlaw08_LeagueRanks.j1 k x1 bt254.1 bt254.2 t258 (decide ((x1.length : Int) > 6)) x240000 x240001) else (kingpinlaw08_LeagueRanks.j1 k x1 bt254.1 bt254.2 t258 false x240000 x240001)) else (some false))))))))
def kingpinlaw08_LeagueRanks.j1 : Nat → List Int → List Int → Int → Int → Bool → Int → List (S70) → Option (Bool)
 | 0, _, _, _, _, _, _, _ => none
 | k + 1, x1, x6, x7, x8, x40, x240000, x240001 => if x40 = true then (kingpinlaw08_LeagueRanks.j2 k x1 x6 x7 3 x240000 x240001) else (kingpinlaw08_LeagueRanks.j2 k x1 x6 x7 x8 x240000 x240001)
def kingpinlaw08_LeagueRanks.j2 : Nat → List Int → List Int → Int → Int → Int → List (S70) → Option (Bool)
 | 0, _, _, _, _, _, _ => none
 | k + 1, x1, x6, x7, x8, x240000, x240001 => if x8 = 0 then ((kingpinlaw08_listed.f k x1 4).bind fun t259 => (kingpinlaw08_LeagueRanks.j3 k x1 x6 x7 x8 (!t259) x240000 x240001)) else (kingpinlaw08_LeagueRanks.j3 k x1 x6 x7 x8 false x240000 x240001)
def kingpinlaw08_LeagueRanks.j3 : Nat → List Int → List Int → Int → Int → Bool → Int → List (S70) → Option (Bool)
 | 0, _, _, _, _, _, _, _ => none
 | k + 1, x1, x6, x7, x8, x47, x240000, x240001 => if x47 = true then (kingpinlaw08_LeagueRanks.j4 k x1 x6 x7 2 x240000 x240001) else (kingpinlaw08_LeagueRanks.j4 k x1 x6 x7 x8 x240000 x240001)
def kingpinlaw08_LeagueRanks.j4 : Nat → List Int → List Int → Int → Int → Int → List (S70) → Option (Bool)
 | 0, _, _, _, _, _, _ => none
 | k + 1, x1, x6, x7, x8, x240000, x240001 => if x8 = 0 then (if x7 = 0 then ((kingpinref08_Rank.f k x240000 x240001 x1).bind fun t260 => ((kingpinlaw08_ints.f k x6 t260).bind fun t263 => (if t263 = true then ((kingpinlaw08_awake.f).bind fun t264 => (some t264)) else (some false)))) else (some false)) else (if x7 = x8 then (if (x6.length : Int) = 0 then ((kingpinlaw08_awake.f).bind fun t265 => (some t265)) else (some false)) else (some false))
end
def kingpinlaw08_LeagueRanks.f (k : Nat) (a0_0 : Int) (l0_1 : List (S70)) (l1 : List Int) : Option (Bool) := (kingpinlaw08_Thin.f a0_0 l0_1).bind fun t240 => (if t240 = true then (kingpinlaw08_LeagueRanks.j0 k l1 (decide ((l1.length : Int) > 9)) a0_0 l0_1) else (kingpinlaw08_LeagueRanks.j0 k l1 true a0_0 l0_1))
set_option maxHeartbeats 8000000 in
set_option maxRecDepth 100000 in
theorem kingpinlaw08_LeagueRanks.calls (k : Nat) (a0_0 : Int) (A0_1 : Option Addr) (c0_1 : Nat) (l0_1 : List (S70)) (A1 : Option Addr) (c1 : Nat) (l1 : List Int) (r : Bool) (w : World) (hr0_1 : Kd.C k70 w A0_1 l0_1.length l0_1) (hc0_1 : l0_1.length ≤ c0_1) (hr1 : Kd.C (Kd.int .u8) w A1 l1.length l1) (hc1 : l1.length ≤ c1) (h : kingpinlaw08_LeagueRanks.f k a0_0 l0_1 l1 = some r) :
  Calls Try.prog 3 #[.agg #[.int .i64 a0_0, .slice A0_1 l0_1.length c0_1], .slice A1 l1.length c1] w fun e w' => e = .returned (.bool r) ∧ Below w.heap.size w w' := by
 have hu24 := Try.underlying24
 have HR0_1 := Aside0.mk hr0_1
 have HC0_1 := Aside0.mk hc0_1
 clear hr0_1 hc0_1
 have HR1 := Aside0.mk hr1
 have HC1 := Aside0.mk hc1
 clear hr1 hc1
 have HB := Aside0.mk (Below.refl w.heap.size w)
 have H : ((kingpinlaw08_Thin.f a0_0 l0_1).bind fun t240 => (if t240 = true then (kingpinlaw08_LeagueRanks.j0 k l1 (decide ((l1.length : Int) > 9)) a0_0 l0_1) else (kingpinlaw08_LeagueRanks.j0 k l1 true a0_0 l0_1))) = some r := h
 clear h
 have HC3 := Aside0.mk H
 clear H
 go_enter Try.func3, Try.ntmps3
 go_upto_region 1 with (first | ((with_reducible refine gate_dst (N := 2) rfl ?_); (try (refine gate_guard (by rfl) ?_; dsimp only)); refine box_event ?hg (N := 2) ?hd (cs := #[.int .i64 a0_0, .slice A0_1 l0_1.length c0_1]) (t := 24) ?hr ?_; (case hd => rfl); (case hg => rfl); (case hr => first | (go_simp; done) | (go_simp; rfl)); intro gb239 hg w4 hbox hb; have n0_ := Aside0.mk (below_step (by repeat (first | (with_reducible first | exact HB.out | apply below_alloc | apply pw_below_drewN | apply below_drew1) | exact HB.out)) hb); have n1_ := Aside0.mk (hbox); have n2_ := Aside0.mk ((by rw [hg]; exact (below_size (by repeat (first | (with_reducible first | exact HB.out | apply below_alloc | apply pw_below_drewN | apply below_drew1) | exact HB.out))) : w.heap.size ≤ gb239)); have n3_ := Aside0.mk ((by rw [hg]; exact (below_size (by repeat (first | (with_reducible first | exact HB.out | apply below_alloc | apply pw_below_drewN | apply below_drew1) | exact HB.out))) : w.heap.size ≤ gb239)); clear HB; have HB := n0_; have BK239 := n1_; have GW239 := n2_; have GE239 := n3_; clear n0_ n1_ n2_ n3_; clear hb hbox hg))
 (try simp only [Act.put, List.setIfInBounds_toArray, List.set_cons_zero, List.set_cons_succ])
 go_cut [16] (fun v16 wc => ∃ (kq : Nat) (x16_2 : Bool), v16 = .bool x16_2 ∧ Aside0 (kingpinlaw08_LeagueRanks.j0 kq l1 x16_2 a0_0 l0_1 = some r) ∧ Aside0 (kq ≤ k) ∧ Aside0 (wc.heap[gb239]? = some (.cells #[.int .i64 a0_0, (.slice A0_1 l0_1.length c0_1)] 24 (0, 0))) ∧ Aside0 (Below w.heap.size w wc))
 case first =>
  have H := HC3.out
  clear HC3
  replace H := Option.bind_eq_some_iff.mp H
  obtain ⟨t240, A50, H⟩ := H
  replace H : (if t240 = true then (kingpinlaw08_LeagueRanks.j0 k l1 (decide ((l1.length : Int) > 9)) a0_0 l0_1) else (kingpinlaw08_LeagueRanks.j0 k l1 true a0_0 l0_1)) = some r := H
  have A5 := Aside0.mk A50
  clear A50
  by_cases c6 : t240 = true
  ·
   subst c6
   have H1 : (kingpinlaw08_LeagueRanks.j0 k l1 (decide ((l1.length : Int) > 9)) a0_0 l0_1) = some r := by rw [if_pos rfl] at H; exact H
   clear H
   have H := H1
   clear H1
   have H' := Aside0.mk H
   clear H
   have hcz7_0 : w4.cell? ⟨gb239, 0, none⟩ = some (.int .i64 a0_0) := (blk_cell BK239.out 0).trans rfl
   have hcz7_1 : w4.cell? ⟨gb239, 1, none⟩ = some (.slice A0_1 l0_1.length c0_1) := (blk_cell BK239.out 1).trans rfl
   have hfz7_0 := blk_frozen BK239.out 0
   have hfz7_1 := blk_frozen BK239.out 1
   go_wp2_with (first | ((with_reducible refine gate_callee (f := 15) rfl ?_); refine goesL_ (some 10) rfl rfl Try.func15 (by kernel_rfl) rfl #[.agg #[.int .i64 a0_0, .slice A0_1 l0_1.length c0_1]] rfl (by (try simp only [List.map_toArray, List.map_cons, List.map_nil]); first | done | rfl | (simp only [List.length_drop, List.length_take]; rfl)) ?_; (with_reducible refine (kingpinlaw08_Thin.calls a0_0 _ _ l0_1 true _ ?side1 ?side2 A5.out).mono ?_); (case side1 => repeat (first | exact (Kd.C_below HR0_1.out HB.out) | (with_reducible refine Kd.C_alloc ?_ _) | (with_reducible refine Kd.C_drewN ?_ _) | (with_reducible refine Kd.C_drew ?_))); (case side2 => exact HC0_1.out); rintro e w8 ⟨rfl, hb⟩; refine ⟨_, rfl, ?_⟩; have n0_ := Aside0.mk (blk_below (g := gb239) (o := .cells #[.int .i64 a0_0, .slice A0_1 l0_1.length c0_1] 24 (0, 0)) (by (with_reducible repeat (first | refine blk_drewN ?_ _ | refine blk_drew ?_ | refine blk_alloc ?_ _)); exact BK239.out) hb); have n1_ := Aside0.mk (below_step (by repeat (first | (with_reducible first | exact HB.out | apply below_alloc | apply pw_below_drewN | apply below_drew1 | refine below_set ?_ GE239.out) | exact HB.out)) hb); clear BK239; clear HB; have BK239 := n0_; have HB := n1_; clear n0_ n1_; (try clear hb); (try clear hb2); (try clear hk); (try clear hi)))
   go_meet
   case rel => exact ⟨_, (decide ((l1.length : Int) > 9)), (by first | rfl | (simp; done) | (simp [*]; done)), H', ⟨by first | omega | exact Nat.le_refl _⟩, ⟨by (with_reducible repeat (first | refine blk_drewN ?_ _ | refine blk_drew ?_ | refine blk_alloc ?_ _)); exact BK239.out⟩, ⟨by repeat (first | (with_reducible first | exact HB.out | apply below_alloc | apply pw_below_drewN | apply below_drew1 | refine below_set ?_ GE239.out) | exact HB.out)⟩⟩
  ·
   replace c6 := Bool.eq_false_iff.mpr c6
   subst c6
   have H1 : (kingpinlaw08_LeagueRanks.j0 k l1 true a0_0 l0_1) = some r := by rw [if_neg (show ¬ (false = true) by decide)] at H; exact H
   clear H
   have H := H1
   clear H1
   have H' := Aside0.mk H
   clear H
   have hcz9_0 : w4.cell? ⟨gb239, 0, none⟩ = some (.int .i64 a0_0) := (blk_cell BK239.out 0).trans rfl
   have hcz9_1 : w4.cell? ⟨gb239, 1, none⟩ = some (.slice A0_1 l0_1.length c0_1) := (blk_cell BK239.out 1).trans rfl
   have hfz9_0 := blk_frozen BK239.out 0
   have hfz9_1 := blk_frozen BK239.out 1
   go_wp2_with (first | ((with_reducible refine gate_callee (f := 15) rfl ?_); refine goesL_ (some 10) rfl rfl Try.func15 (by kernel_rfl) rfl #[.agg #[.int .i64 a0_0, .slice A0_1 l0_1.length c0_1]] rfl (by (try simp only [List.map_toArray, List.map_cons, List.map_nil]); first | done | rfl | (simp only [List.length_drop, List.length_take]; rfl)) ?_; (with_reducible refine (kingpinlaw08_Thin.calls a0_0 _ _ l0_1 false _ ?side1 ?side2 A5.out).mono ?_); (case side1 => repeat (first | exact (Kd.C_below HR0_1.out HB.out) | (with_reducible refine Kd.C_alloc ?_ _) | (with_reducible refine Kd.C_drewN ?_ _) | (with_reducible refine Kd.C_drew ?_))); (case side2 => exact HC0_1.out); rintro e w10 ⟨rfl, hb⟩; refine ⟨_, rfl, ?_⟩; have n0_ := Aside0.mk (blk_below (g := gb239) (o := .cells #[.int .i64 a0_0, .slice A0_1 l0_1.length c0_1] 24 (0, 0)) (by (with_reducible repeat (first | refine blk_drewN ?_ _ | refine blk_drew ?_ | refine blk_alloc ?_ _)); exact BK239.out) hb); have n1_ := Aside0.mk (below_step (by repeat (first | (with_reducible first | exact HB.out | apply below_alloc | apply pw_below_drewN | apply below_drew1 | refine below_set ?_ GE239.out) | exact HB.out)) hb); clear BK239; clear HB; have BK239 := n0_; have HB := n1_; clear n0_ n1_; (try clear hb); (try clear hb2); (try clear hk); (try clear hi)))
   go_meet
   case rel => exact ⟨_, (true), (by first | rfl | (simp; done) | (simp [*]; done)), H', ⟨by first | omega | exact Nat.le_refl _⟩, ⟨by (with_reducible repeat (first | refine blk_drewN ?_ _ | refine blk_drew ?_ | refine blk_alloc ?_ _)); exact BK239.out⟩, ⟨by repeat (first | (with_reducible first | exact HB.out | apply below_alloc | apply pw_below_drewN | apply below_drew1 | refine below_set ?_ GE239.out) | exact HB.out)⟩⟩
 case rest =>
  clear HC3
  try clear c1
  try clear p2
  try clear c3
  try clear c6
  try clear hcz7_0
  try clear hcz7_1
  try clear hcz9_0
  try clear hcz9_1
  try clear hfz7_0
  try clear hfz7_1
  try clear hfz9_0
  try clear hfz9_1
  obtain ⟨kq, x16_2, rfl, HA, HJ2, BK239, HB⟩ := hcut
  cases kq with
  | zero => exact absurd HA.out (by simp [kingpinlaw08_LeagueRanks.j0])
  | succ kj2 =>
   have H := HA.out
   clear HA
   simp only [kingpinlaw08_LeagueRanks.j0] at H
   by_cases c11 : x16_2 = true
   ·
    subst c11
    have H1 : ((kingpinlaw08_awake.f).bind fun t241 => (some t241)) = some r := by rw [if_pos rfl] at H; exact H
    clear H
    have H := H1
    clear H1
    replace H := Option.bind_eq_some_iff.mp H
    obtain ⟨t241, A120, H⟩ := H
    replace H : (some t241) = some r := H
    have A12 := Aside0.mk A120
    clear A120
    obtain rfl := Option.some.inj H
    go_wp2_with (first | ((with_reducible refine gate_callee (f := 16) rfl ?_); refine goesL_ (some 17) rfl rfl Try.func16 (by kernel_rfl) rfl #[] rfl (by (try simp only [List.map_toArray, List.map_cons, List.map_nil]); first | done | rfl | (simp only [List.length_drop, List.length_take]; rfl)) ?_; (with_reducible refine (kingpinlaw08_awake.calls  t241 _ A12.out).mono ?_); rintro e w13 ⟨rfl, hb⟩; refine ⟨_, rfl, ?_⟩; have n0_ := Aside0.mk (blk_below (g := gb239) (o := .cells #[.int .i64 a0_0, .slice A0_1 l0_1.length c0_1] 24 (0, 0)) (by (with_reducible repeat (first | refine blk_drewN ?_ _ | refine blk_drew ?_ | refine blk_alloc ?_ _)); exact BK239.out) hb); have n1_ := Aside0.mk (below_step (by repeat (first | (with_reducible first | exact HB.out | apply below_alloc | apply pw_below_drewN | apply below_drew1 | refine below_set ?_ GE239.out) | exact HB.out)) hb); clear BK239; clear HB; have BK239 := n0_; have HB := n1_; clear n0_ n1_; (try clear hb); (try clear hb2); (try clear hk); (try clear hi)))
    go_ret
    exact ⟨by first | rfl | (simp [errW_none, errW_some] <;> rfl) | (simp [*, errW_none, errW_some] <;> rfl), by repeat (first | (with_reducible first | exact HB.out | apply below_alloc | apply pw_below_drewN | apply below_drew1 | refine below_set ?_ GE239.out) | exact HB.out)⟩
   ·
    replace c11 := Bool.eq_false_iff.mpr c11
    subst c11
    have H1 : ((kingpinlaw08_League.f kj2 a0_0 l0_1).bind fun bt242 => ((league_CheckLeague.f bt242.1 bt242.2).bind fun t246 => ((kingpinlaw08_League.f kj2 a0_0 l0_1).bind fun bt247 => ((kingpinlaw08_codes.f l1).bind fun t251 => ((league_Rank.f kj2 bt247.1 bt247.2 t251).bind fun bt254 => ((kingpinlaw08_fault.f kj2 a0_0 l0_1).bind fun t258 => (if t246 = t258 then (if t258 = 0 then (kingpinlaw08_LeagueRanks.j1 kj2 l1 bt254.1 bt254.2 t258 (decide ((l1.length : Int) > 6)) a0_0 l0_1) else (kingpinlaw08_LeagueRanks.j1 kj2 l1 bt254.1 bt254.2 t258 false a0_0 l0_1)) else (some false)))))))) = some r := by rw [if_neg (show ¬ (false = true) by decide)] at H; exact H
    clear H
    have H := H1
    clear H1
    replace H := Option.bind_eq_some_iff.mp H
    obtain ⟨⟨t242, t243⟩, A140, H⟩ := H
    replace H : ((league_CheckLeague.f t242 t243).bind fun t246 => ((kingpinlaw08_League.f kj2 a0_0 l0_1).bind fun bt247 => ((kingpinlaw08_codes.f l1).bind fun t251 => ((league_Rank.f kj2 bt247.1 bt247.2 t251).bind fun bt254 => ((kingpinlaw08_fault.f kj2 a0_0 l0_1).bind fun t258 => (if t246 = t258 then (if t258 = 0 then (kingpinlaw08_LeagueRanks.j1 kj2 l1 bt254.1 bt254.2 t258 (decide ((l1.length : Int) > 6)) a0_0 l0_1) else (kingpinlaw08_LeagueRanks.j1 kj2 l1 bt254.1 bt254.2 t258 false a0_0 l0_1)) else (some false))))))) = some r := H
    have A14 := Aside0.mk A140
    clear A140
    replace H := Option.bind_eq_some_iff.mp H
    obtain ⟨t246, A150, H⟩ := H
    replace H : ((kingpinlaw08_League.f kj2 a0_0 l0_1).bind fun bt247 => ((kingpinlaw08_codes.f l1).bind fun t251 => ((league_Rank.f kj2 bt247.1 bt247.2 t251).bind fun bt254 => ((kingpinlaw08_fault.f kj2 a0_0 l0_1).bind fun t258 => (if t246 = t258 then (if t258 = 0 then (kingpinlaw08_LeagueRanks.j1 kj2 l1 bt254.1 bt254.2 t258 (decide ((l1.length : Int) > 6)) a0_0 l0_1) else (kingpinlaw08_LeagueRanks.j1 kj2 l1 bt254.1 bt254.2 t258 false a0_0 l0_1)) else (some false)))))) = some r := H
    have A15 := Aside0.mk A150
    clear A150
    replace H := Option.bind_eq_some_iff.mp H
    obtain ⟨⟨t247, t248⟩, A160, H⟩ := H
    replace H : ((kingpinlaw08_codes.f l1).bind fun t251 => ((league_Rank.f kj2 t247 t248 t251).bind fun bt254 => ((kingpinlaw08_fault.f kj2 a0_0 l0_1).bind fun t258 => (if t246 = t258 then (if t258 = 0 then (kingpinlaw08_LeagueRanks.j1 kj2 l1 bt254.1 bt254.2 t258 (decide ((l1.length : Int) > 6)) a0_0 l0_1) else (kingpinlaw08_LeagueRanks.j1 kj2 l1 bt254.1 bt254.2 t258 false a0_0 l0_1)) else (some false))))) = some r := H
    have A16 := Aside0.mk A160
    clear A160
    replace H := Option.bind_eq_some_iff.mp H
    obtain ⟨t251, A170, H⟩ := H
    replace H : ((league_Rank.f kj2 t247 t248 t251).bind fun bt254 => ((kingpinlaw08_fault.f kj2 a0_0 l0_1).bind fun t258 => (if t246 = t258 then (if t258 = 0 then (kingpinlaw08_LeagueRanks.j1 kj2 l1 bt254.1 bt254.2 t258 (decide ((l1.length : Int) > 6)) a0_0 l0_1) else (kingpinlaw08_LeagueRanks.j1 kj2 l1 bt254.1 bt254.2 t258 false a0_0 l0_1)) else (some false)))) = some r := H
    have A17 := Aside0.mk A170
    clear A170
    replace H := Option.bind_eq_some_iff.mp H
    obtain ⟨⟨t254, t257⟩, A180, H⟩ := H
    replace H : ((kingpinlaw08_fault.f kj2 a0_0 l0_1).bind fun t258 => (if t246 = t258 then (if t258 = 0 then (kingpinlaw08_LeagueRanks.j1 kj2 l1 t254 t257 t258 (decide ((l1.length : Int) > 6)) a0_0 l0_1) else (kingpinlaw08_LeagueRanks.j1 kj2 l1 t254 t257 t258 false a0_0 l0_1)) else (some false))) = some r := H
    have A18 := Aside0.mk A180
    clear A180
    replace H := Option.bind_eq_some_iff.mp H
    obtain ⟨t258, A190, H⟩ := H
    replace H : (if t246 = t258 then (if t258 = 0 then (kingpinlaw08_LeagueRanks.j1 kj2 l1 t254 t257 t258 (decide ((l1.length : Int) > 6)) a0_0 l0_1) else (kingpinlaw08_LeagueRanks.j1 kj2 l1 t254 t257 t258 false a0_0 l0_1)) else (some false)) = some r := H
    have A19 := Aside0.mk A190
    clear A190
    by_cases c20 : t246 = t258
    ·
     rw [if_pos c20] at H
     have c20b0 : (t246 == t258) = true := beq_iff_eq.mpr c20
     have c20b1 : (t246 != t258) = false := bne_eq_false_iff_eq.mpr c20
     clear c20
     have HC21 := Aside0.mk H
     clear H
     have hcz22_0 : wc.cell? ⟨gb239, 0, none⟩ = some (.int .i64 a0_0) := (blk_cell BK239.out 0).trans rfl
     have hcz22_1 : wc.cell? ⟨gb239, 1, none⟩ = some (.slice A0_1 l0_1.length c0_1) := (blk_cell BK239.out 1).trans rfl
     have hfz22_0 := blk_frozen BK239.out 0
     have hfz22_1 := blk_frozen BK239.out 1
     go_upto_region 8 with (first | ((with_reducible refine gate_callee (f := 18) rfl ?_); refine goesL_ (some 19) rfl rfl Try.func18 (by kernel_rfl) rfl #[.agg #[.int .i64 a0_0, .slice A0_1 l0_1.length c0_1]] rfl (by (try simp only [List.map_toArray, List.map_cons, List.map_nil]); first | done | rfl | (simp only [List.length_drop, List.length_take]; rfl)) ?_; (with_reducible refine (kingpinlaw08_League.calls kj2 a0_0 _ _ l0_1 t242 t243 _ ?side1 ?side2 A14.out).mono ?_); (case side1 => repeat (first | exact (Kd.C_below HR0_1.out HB.out) | (with_reducible refine Kd.C_alloc ?_ _) | (with_reducible refine Kd.C_drewN ?_ _) | (with_reducible refine Kd.C_drew ?_))); (case side2 => exact HC0_1.out); rintro e w23 ⟨v244, rfl, ho0, hb⟩; refine ⟨_, rfl, ?_⟩; have n0_ := Aside0.mk (Kd.R_lower ho0 (below_size (by repeat (first | (with_reducible first | exact HB.out | apply below_alloc | apply pw_below_drewN | apply below_drew1 | refine below_set ?_ GE239.out) | exact HB.out)))); have n1_ := Aside0.mk (blk_below (g := gb239) (o := .cells #[.int .i64 a0_0, .slice A0_1 l0_1.length c0_1] 24 (0, 0)) (by (with_reducible repeat (first | refine blk_drewN ?_ _ | refine blk_drew ?_ | refine blk_alloc ?_ _)); exact BK239.out) hb); have n2_ := Aside0.mk (below_step (by repeat (first | (with_reducible first | exact HB.out | apply below_alloc | apply pw_below_drewN | apply below_drew1 | refine below_set ?_ GE239.out) | exact HB.out)) hb); clear BK239; clear HB; have HO245 := n0_; have BK239 := n1_; have HB := n2_; clear n0_ n1_ n2_; (try clear hb); (try clear hb2); (try clear hk); (try clear hi); (try clear ho0); obtain ⟨Ao24, co24, eo24⟩ := Kd.R_slice HO245.out; subst eo24) | ((with_reducible refine gate_callee (f := 17) rfl ?_); refine goesL_ (some 20) rfl rfl Try.func17 (by kernel_rfl) rfl #[.agg #[.int .i64 t242, .slice Ao24 t243.length co24]] rfl (by (try simp only [List.map_toArray, List.map_cons, List.map_nil]); first | done | rfl | (simp only [List.length_drop, List.length_take]; rfl)) ?_; (with_reducible refine (league_CheckLeague.calls t242 _ _ t243 t246 _ ?side1 ?side2 A15.out).mono ?_); (case side1 => repeat (first | exact (Kd.R_reads' HO245.out).2.2 | (with_reducible refine Kd.C_alloc ?_ _) | (with_reducible refine Kd.C_drewN ?_ _) | (with_reducible refine Kd.C_drew ?_))); (case side2 => exact (Kd.R_reads' HO245.out).2.1); rintro e w25 ⟨rfl, hb⟩; refine ⟨_, rfl, ?_⟩; have n0_ := Aside0.mk (Kd.R_below (by (with_reducible repeat (first | apply Kd.R_alloc | apply Kd.R_drewN | apply Kd.R_drew)); exact HO245.out) hb); have n1_ := Aside0.mk (blk_below (g := gb239) (o := .cells #[.int .i64 a0_0, .slice A0_1 l0_1.length c0_1] 24 (0, 0)) (by (with_reducible repeat (first | refine blk_drewN ?_ _ | refine blk_drew ?_ | refine blk_alloc ?_ _)); exact BK239.out) hb); have n2_ := Aside0.mk (below_step (by repeat (first | (with_reducible first | exact HB.out | apply below_alloc | apply pw_below_drewN | apply below_drew1 | refine below_set ?_ GE239.out) | exact HB.out)) hb); clear HO245; clear BK239; clear HB; have HO245 := n0_; have BK239 := n1_; have HB := n2_; clear n0_ n1_ n2_; (try clear hb); (try clear hb2); (try clear hk); (try clear hi); have hcz26_0 : w25.cell? ⟨gb239, 0, none⟩ = some (.int .i64 a0_0) := (blk_cell BK239.out 0).trans rfl; have hcz26_1 : w25.cell? ⟨gb239, 1, none⟩ = some (.slice A0_1 l0_1.length c0_1) := (blk_cell BK239.out 1).trans rfl; have hfz26_0 := blk_frozen BK239.out 0; have hfz26_1 := blk_frozen BK239.out 1) | ((with_reducible refine gate_callee (f := 18) rfl ?_); refine goesL_ (some 23) rfl rfl Try.func18 (by kernel_rfl) rfl #[.agg #[.int .i64 a0_0, .slice A0_1 l0_1.length c0_1]] rfl (by (try simp only [List.map_toArray, List.map_cons, List.map_nil]); first | done | rfl | (simp only [List.length_drop, List.length_take]; rfl)) ?_; (with_reducible refine (kingpinlaw08_League.calls kj2 a0_0 _ _ l0_1 t247 t248 _ ?side1 ?side2 A16.out).mono ?_); (case side1 => repeat (first | exact (Kd.C_below HR0_1.out HB.out) | (with_reducible refine Kd.C_alloc ?_ _) | (with_reducible refine Kd.C_drewN ?_ _) | (with_reducible refine Kd.C_drew ?_))); (case side2 => exact HC0_1.out); rintro e w27 ⟨v249, rfl, ho0, hb⟩; refine ⟨_, rfl, ?_⟩; have n0_ := Aside0.mk (Kd.R_elder' (by (with_reducible repeat (first | apply Kd.R_alloc | apply Kd.R_drewN | apply Kd.R_drew)); exact HO245.out) (Kd.R_base ho0) hb); have n1_ := Aside0.mk (Kd.R_lower (Kd.R_new' ho0 (Kd.R_lt (by (with_reducible repeat (first | apply Kd.R_alloc | apply Kd.R_drewN | apply Kd.R_drew)); exact HO245.out))) (below_size (by repeat (first | (with_reducible first | exact HB.out | apply below_alloc | apply pw_below_drewN | apply below_drew1 | refine below_set ?_ GE239.out) | exact HB.out)))); have n2_ := Aside0.mk (blk_below (g := gb239) (o := .cells #[.int .i64 a0_0, .slice A0_1 l0_1.length c0_1] 24 (0, 0)) (by (with_reducible repeat (first | refine blk_drewN ?_ _ | refine blk_drew ?_ | refine blk_alloc ?_ _)); exact BK239.out) hb); have n3_ := Aside0.mk (below_step (by repeat (first | (with_reducible first | exact HB.out | apply below_alloc | apply pw_below_drewN | apply below_drew1 | refine below_set ?_ GE239.out) | exact HB.out)) hb); clear HO245; clear BK239; clear HB; have HO245 := n0_; have HO250 := n1_; have BK239 := n2_; have HB := n3_; clear n0_ n1_ n2_ n3_; (try clear hb); (try clear hb2); (try clear hk); (try clear hi); (try clear ho0)) | ((with_reducible refine gate_callee (f := 20) rfl ?_); refine goesL_ (some 25) rfl rfl Try.func20 (by kernel_rfl) rfl #[.slice A1 l1.length c1] rfl (by (try simp only [List.map_toArray, List.map_cons, List.map_nil]); first | done | rfl | (simp only [List.length_drop, List.length_take]; rfl)) ?_; (with_reducible refine (kingpinlaw08_codes.calls _ _ l1 t251 _ ?side1 ?side2 A17.out).mono ?_); (case side1 => repeat (first | exact (Kd.C_below HR1.out HB.out) | (with_reducible refine Kd.C_alloc ?_ _) | (with_reducible refine Kd.C_drewN ?_ _) | (with_reducible refine Kd.C_drew ?_))); (case side2 => exact HC1.out); rintro e w28 ⟨v252, rfl, ho0, hb⟩; refine ⟨_, rfl, ?_⟩; have n0_ := Aside0.mk (Kd.R_below (by (with_reducible repeat (first | apply Kd.R_alloc | apply Kd.R_drewN | apply Kd.R_drew)); exact HO245.out) hb); have n1_ := Aside0.mk (Kd.R_below (by (with_reducible repeat (first | apply Kd.R_alloc | apply Kd.R_drewN | apply Kd.R_drew)); exact HO250.out) hb); have n2_ := Aside0.mk (Kd.R_lower ho0 (below_size (by repeat (first | (with_reducible first | exact HB.out | apply below_alloc | apply pw_below_drewN | apply below_drew1 | refine below_set ?_ GE239.out) | exact HB.out)))); have n3_ := Aside0.mk (blk_below (g := gb239) (o := .cells #[.int .i64 a0_0, .slice A0_1 l0_1.length c0_1] 24 (0, 0)) (by (with_reducible repeat (first | refine blk_drewN ?_ _ | refine blk_drew ?_ | refine blk_alloc ?_ _)); exact BK239.out) hb); have n4_ := Aside0.mk (below_step (by repeat (first | (with_reducible first | exact HB.out | apply below_alloc | apply pw_below_drewN | apply below_drew1 | refine below_set ?_ GE239.out) | exact HB.out)) hb); clear HO245; clear HO250; clear BK239; clear HB; have HO245 := n0_; have HO250 := n1_; have HO253 := n2_; have BK239 := n3_; have HB := n4_; clear n0_ n1_ n2_ n3_ n4_; (try clear hb); (try clear hb2); (try clear hk); (try clear hi); (try clear ho0); obtain ⟨Ao29, co29, eo29⟩ := Kd.R_slice HO250.out; subst eo29; obtain ⟨Ao30, co30, eo30⟩ := Kd.R_slice HO253.out; subst eo30) | ((with_reducible refine gate_callee (f := 19) rfl ?_); refine goesL_ (some 26) rfl rfl Try.func19 (by kernel_rfl) rfl #[.agg #[.int .i64 t247, .slice Ao29 t248.length co29], .slice Ao30 t251.length co30] rfl (by (try simp only [List.map_toArray, List.map_cons, List.map_nil]); first | done | rfl | (simp only [List.length_drop, List.length_take]; rfl)) ?_; (with_reducible refine (league_Rank.calls kj2 t247 _ _ t248 _ _ t251 t254 t257 _ ?side1 ?side2 ?side3 ?side4 A18.out).mono ?_); (case side1 => repeat (first | exact (Kd.R_reads' HO250.out).2.2 | (with_reducible refine Kd.C_alloc ?_ _) | (with_reducible refine Kd.C_drewN ?_ _) | (with_reducible refine Kd.C_drew ?_))); (case side2 => exact (Kd.R_reads' HO250.out).2.1); (case side3 => repeat (first | exact (Kd.R_reads' HO253.out).2.2 | (with_reducible refine Kd.C_alloc ?_ _) | (with_reducible refine Kd.C_drewN ?_ _) | (with_reducible refine Kd.C_drew ?_))); (case side4 => exact (Kd.R_reads' HO253.out).2.1); rintro e w31 ⟨v255, rfl, ho0, hb⟩; refine ⟨_, rfl, ?_⟩; have n0_ := Aside0.mk (Kd.R_below (by (with_reducible repeat (first | apply Kd.R_alloc | apply Kd.R_drewN | apply Kd.R_drew)); exact HO245.out) hb); have n1_ := Aside0.mk (Kd.R_below (by (with_reducible repeat (first | apply Kd.R_alloc | apply Kd.R_drewN | apply Kd.R_drew)); exact HO250.out) hb); have n2_ := Aside0.mk (Kd.R_below (by (with_reducible repeat (first | apply Kd.R_alloc | apply Kd.R_drewN | apply Kd.R_drew)); exact HO253.out) hb); have n3_ := Aside0.mk (Kd.R_lower ho0 (below_size (by repeat (first | (with_reducible first | exact HB.out | apply below_alloc | apply pw_below_drewN | apply below_drew1 | refine below_set ?_ GE239.out) | exact HB.out)))); have n4_ := Aside0.mk (blk_below (g := gb239) (o := .cells #[.int .i64 a0_0, .slice A0_1 l0_1.length c0_1] 24 (0, 0)) (by (with_reducible repeat (first | refine blk_drewN ?_ _ | refine blk_drew ?_ | refine blk_alloc ?_ _)); exact BK239.out) hb); have n5_ := Aside0.mk (below_step (by repeat (first | (with_reducible first | exact HB.out | apply below_alloc | apply pw_below_drewN | apply below_drew1 | refine below_set ?_ GE239.out) | exact HB.out)) hb); clear HO245; clear HO250; clear HO253; clear BK239; clear HB; have HO245 := n0_; have HO250 := n1_; have HO253 := n2_; have HO256 := n3_; have BK239 := n4_; have HB := n5_; clear n0_ n1_ n2_ n3_ n4_ n5_; (try clear hb); (try clear hb2); (try clear hk); (try clear hi); (try clear ho0); have hcz32_0 : w31.cell? ⟨gb239, 0, none⟩ = some (.int .i64 a0_0) := (blk_cell BK239.out 0).trans rfl; have hcz32_1 : w31.cell? ⟨gb239, 1, none⟩ = some (.slice A0_1 l0_1.length c0_1) := (blk_cell BK239.out 1).trans rfl; have hfz32_0 := blk_frozen BK239.out 0; have hfz32_1 := blk_frozen BK239.out 1) | ((with_reducible refine gate_callee (f := 21) rfl ?_); refine goesL_ (some 30) rfl rfl Try.func21 (by kernel_rfl) rfl #[.agg #[.int .i64 a0_0, .slice A0_1 l0_1.length c0_1]] rfl (by (try simp only [List.map_toArray, List.map_cons, List.map_nil]); first | done | rfl | (simp only [List.length_drop, List.length_take]; rfl)) ?_; (with_reducible refine (kingpinlaw08_fault.calls kj2 a0_0 _ _ l0_1 t258 _ ?side1 ?side2 A19.out).mono ?_); (case side1 => repeat (first | exact (Kd.C_below HR0_1.out HB.out) | (with_reducible refine Kd.C_alloc ?_ _) | (with_reducible refine Kd.C_drewN ?_ _) | (with_reducible refine Kd.C_drew ?_))); (case side2 => exact HC0_1.out); rintro e w33 ⟨rfl, hb⟩; refine ⟨_, rfl, ?_⟩; have n0_ := Aside0.mk (Kd.R_below (by (with_reducible repeat (first | apply Kd.R_alloc | apply Kd.R_drewN | apply Kd.R_drew)); exact HO245.out) hb); have n1_ := Aside0.mk (Kd.R_below (by (with_reducible repeat (first | apply Kd.R_alloc | apply Kd.R_drewN | apply Kd.R_drew)); exact HO250.out) hb); have n2_ := Aside0.mk (Kd.R_below (by (with_reducible repeat (first | apply Kd.R_alloc | apply Kd.R_drewN | apply Kd.R_drew)); exact HO253.out) hb); have n3_ := Aside0.mk (Kd.R_below (by (with_reducible repeat (first | apply Kd.R_alloc | apply Kd.R_drewN | apply Kd.R_drew)); exact HO256.out) hb); have n4_ := Aside0.mk (blk_below (g := gb239) (o := .cells #[.int .i64 a0_0, .slice A0_1 l0_1.length c0_1] 24 (0, 0)) (by (with_reducible repeat (first | refine blk_drewN ?_ _ | refine blk_drew ?_ | refine blk_alloc ?_ _)); exact BK239.out) hb); have n5_ := Aside0.mk (below_step (by repeat (first | (with_reducible first | exact HB.out | apply below_alloc | apply pw_below_drewN | apply below_drew1 | refine below_set ?_ GE239.out) | exact HB.out)) hb); clear HO245; clear HO250; clear HO253; clear HO256; clear BK239; clear HB; have HO245 := n0_; have HO250 := n1_; have HO253 := n2_; have HO256 := n3_; have BK239 := n4_; have HB := n5_; clear n0_ n1_ n2_ n3_ n4_ n5_; (try clear hb); (try clear hb2); (try clear hk); (try clear hi)))
     (try simp only [Act.put, List.setIfInBounds_toArray, List.set_cons_zero, List.set_cons_succ])
     go_cut [40] (fun v40 wc => ∃ (kq : Nat) (x40_20 : Bool), v40 = .bool x40_20 ∧ Aside0 (kingpinlaw08_LeagueRanks.j1 kq l1 t254 t257 t258 x40_20 a0_0 l0_1 = some r) ∧ Aside0 (kq ≤ kj2) ∧ Aside0 (Kd.R (Kd.int .i64) 3 wc w.heap.size (fun _ => True) v255 t254) ∧ Aside0 (wc.heap[gb239]? = some (.cells #[.int .i64 a0_0, (.slice A0_1 l0_1.length c0_1)] 24 (0, 0))) ∧ Aside0 (Below w.heap.size w wc))
     case first =>
      have H := HC21.out
      clear HC21
      by_cases c34 : t258 = 0
      ·
       rw [if_pos c34] at H
       have c34b0 : (t258 == 0) = true := beq_iff_eq.mpr c34
       have c34b1 : (t258 != 0) = false := bne_eq_false_iff_eq.mpr c34
       clear c34
       (first | rw [c34b0] | (simp only [i64_w, i32_w]; rw [c34b0]) | skip)
       have H' := Aside0.mk H
       clear H
       go_wp2
       go_meet
       case rel => exact ⟨_, (decide ((l1.length : Int) > 6)), (by first | rfl | (simp; done) | (simp [*]; done)), H', ⟨by have := HJ2.out; first | omega | exact Nat.le_refl _⟩, ⟨by (with_reducible repeat (first | apply Kd.R_alloc | apply Kd.R_drewN | apply Kd.R_drew)); exact HO256.out⟩, ⟨by (with_reducible repeat (first | refine blk_drewN ?_ _ | refine blk_drew ?_ | refine blk_alloc ?_ _)); exact BK239.out⟩, ⟨by repeat (first | (with_reducible first | exact HB.out | apply below_alloc | apply pw_below_drewN | apply below_drew1 | refine below_set ?_ GE239.out) | exact HB.out)⟩⟩
      ·
       rw [if_neg c34] at H
       have c34b0 : (t258 == 0) = false := beq_eq_false_iff_ne.mpr c34
       have c34b1 : (t258 != 0) = true := bne_iff_ne.mpr c34
       (first | rw [c34b0] | (simp only [i64_w, i32_w]; rw [c34b0]) | skip)
       have H' := Aside0.mk H
       clear H
       go_wp2
       go_meet
       case rel => exact ⟨_, (false), (by first | rfl | (simp; done) | (simp [*]; done)), H', ⟨by have := HJ2.out; first | omega | exact Nat.le_refl _⟩, ⟨by (with_reducible repeat (first | apply Kd.R_alloc | apply Kd.R_drewN | apply Kd.R_drew)); exact HO256.out⟩, ⟨by (with_reducible repeat (first | refine blk_drewN ?_ _ | refine blk_drew ?_ | refine blk_alloc ?_ _)); exact BK239.out⟩, ⟨by repeat (first | (with_reducible first | exact HB.out | apply below_alloc | apply pw_below_drewN | apply below_drew1 | refine below_set ?_ GE239.out) | exact HB.out)⟩⟩
     case rest =>
      clear HC21
      try clear c1
      try clear c2
      try clear p2
      try clear c3
      try clear c6
      try clear c11
      try clear c15
      try clear c16
      try clear c17
      try clear c18
      try clear c19
      try clear c20
      try clear c20b0
      try clear c20b1
      try clear c21
      try clear c34
      try clear c34b0
      try clear c34b1
      try clear hcz22_0
      try clear hcz22_1
      try clear hcz26_0
      try clear hcz26_1
      try clear hcz32_0
      try clear hcz32_1
      try clear hcz7_0
      try clear hcz7_1
      try clear hcz9_0
      try clear hcz9_1
      try clear hfz22_0
      try clear hfz22_1
      try clear hfz26_0
      try clear hfz26_1
      try clear hfz32_0
      try clear hfz32_1
      try clear hfz7_0
      try clear hfz7_1
      try clear hfz9_0
      try clear hfz9_1
      try clear p2
      obtain ⟨kq, x40_20, rfl, HA, HJ20, HO_6, BK239, HB⟩ := hcut
      cases kq with
      | zero => exact absurd HA.out (by simp [kingpinlaw08_LeagueRanks.j1])
      | succ kj20 =>
       have H := HA.out
       clear HA
       simp only [kingpinlaw08_LeagueRanks.j1] at H
       have HC35 := Aside0.mk H
       clear H
       go_upto_if 40 with (fail)
       go_cut [8] (fun v8 wc => ∃ (kq : Nat) (x8_34 : Int), v8 = .int .i64 x8_34 ∧ Aside0 (kingpinlaw08_LeagueRanks.j2 kq l1 t254 t257 x8_34 a0_0 l0_1 = some r) ∧ Aside0 (kq ≤ kj20) ∧ Aside0 (Kd.R (Kd.int .i64) 3 wc w.heap.size (fun _ => True) v255 t254) ∧ Aside0 (wc.heap[gb239]? = some (.cells #[.int .i64 a0_0, (.slice A0_1 l0_1.length c0_1)] 24 (0, 0))) ∧ Aside0 (Below w.heap.size w wc))
       case first =>
        have H := HC35.out
        clear HC35
        by_cases c36 : x40_20 = true
        ·
         subst c36
         have H1 : (kingpinlaw08_LeagueRanks.j2 kj20 l1 t254 t257 3 a0_0 l0_1) = some r := by rw [if_pos rfl] at H; exact H
         clear H
         have H := H1
         clear H1
         have H' := Aside0.mk H
         clear H
         go_wp2
         go_meet
         case rel => exact ⟨_, (3), (by first | rfl | (simp; done) | (simp [*]; done)), H', ⟨by have := HJ2.out; have := HJ20.out; first | omega | exact Nat.le_refl _⟩, ⟨by (with_reducible repeat (first | apply Kd.R_alloc | apply Kd.R_drewN | apply Kd.R_drew)); exact HO_6.out⟩, ⟨by (with_reducible repeat (first | refine blk_drewN ?_ _ | refine blk_drew ?_ | refine blk_alloc ?_ _)); exact BK239.out⟩, ⟨by repeat (first | (with_reducible first | exact HB.out | apply below_alloc | apply pw_below_drewN | apply below_drew1 | refine below_set ?_ GE239.out) | exact HB.out)⟩⟩
        ·
         replace c36 := Bool.eq_false_iff.mpr c36
         subst c36
         have H1 : (kingpinlaw08_LeagueRanks.j2 kj20 l1 t254 t257 t258 a0_0 l0_1) = some r := by rw [if_neg (show ¬ (false = true) by decide)] at H; exact H
         clear H
         have H := H1
         clear H1
         have H' := Aside0.mk H
         clear H
         go_wp2
         go_meet
         case rel => exact ⟨_, (t258), (by first | rfl | (simp; done) | (simp [*]; done)), H', ⟨by have := HJ2.out; have := HJ20.out; first | omega | exact Nat.le_refl _⟩, ⟨by (with_reducible repeat (first | apply Kd.R_alloc | apply Kd.R_drewN | apply Kd.R_drew)); exact HO_6.out⟩, ⟨by (with_reducible repeat (first | refine blk_drewN ?_ _ | refine blk_drew ?_ | refine blk_alloc ?_ _)); exact BK239.out⟩, ⟨by repeat (first | (with_reducible first | exact HB.out | apply below_alloc | apply pw_below_drewN | apply below_drew1 | refine below_set ?_ GE239.out) | exact HB.out)⟩⟩
       case rest =>
        clear HC35
        try clear c1
        try clear c2
        try clear p2
        try clear c3
        try clear c6
        try clear c11
        try clear c15
        try clear c16
        try clear c17
        try clear c18
        try clear c19
        try clear c20
        try clear c20b0
        try clear c20b1
        try clear c21
        try clear c34
        try clear c34b0
        try clear c34b1
        try clear c36
        try clear hcz22_0
        try clear hcz22_1
        try clear hcz26_0
        try clear hcz26_1
        try clear hcz32_0
        try clear hcz32_1
        try clear hcz7_0
        try clear hcz7_1
        try clear hcz9_0
        try clear hcz9_1
        try clear hfz22_0
        try clear hfz22_1
        try clear hfz26_0
        try clear hfz26_1
        try clear hfz32_0
        try clear hfz32_1
        try clear hfz7_0
        try clear hfz7_1
        try clear hfz9_0
        try clear hfz9_1
        try clear p2
        obtain ⟨kq, x8_34, rfl, HA, HJ34, HO_6, BK239, HB⟩ := hcut
        cases kq with
        | zero => exact absurd HA.out (by simp [kingpinlaw08_LeagueRanks.j2])
        | succ kj34 =>
         have H := HA.out
         clear HA
         simp only [kingpinlaw08_LeagueRanks.j2] at H
         have HC37 := Aside0.mk H
         clear H
         go_upto_region 10 with (fail)
         go_cut [47] (fun v47 wc => ∃ (kq : Nat) (x47_36 : Bool), v47 = .bool x47_36 ∧ Aside0 (kingpinlaw08_LeagueRanks.j3 kq l1 t254 t257 x8_34 x47_36 a0_0 l0_1 = some r) ∧ Aside0 (kq ≤ kj34) ∧ Aside0 (Kd.R (Kd.int .i64) 3 wc w.heap.size (fun _ => True) v255 t254) ∧ Aside0 (wc.heap[gb239]? = some (.cells #[.int .i64 a0_0, (.slice A0_1 l0_1.length c0_1)] 24 (0, 0))) ∧ Aside0 (Below w.heap.size w wc))
         case first =>
          have H := HC37.out
          clear HC37
          by_cases c38 : x8_34 = 0
          ·
           rw [if_pos c38] at H
           have c38b0 : (x8_34 == 0) = true := beq_iff_eq.mpr c38
           have c38b1 : (x8_34 != 0) = false := bne_eq_false_iff_eq.mpr c38
           clear c38
           (first | rw [c38b0] | (simp only [i64_w, i32_w]; rw [c38b0]) | skip)
           replace H := Option.bind_eq_some_iff.mp H
           obtain ⟨t259, A390, H⟩ := H
           replace H : (kingpinlaw08_LeagueRanks.j3 kj34 l1 t254 t257 x8_34 (!t259) a0_0 l0_1) = some r := H
           have A39 := Aside0.mk A390
           clear A390
           have H' := Aside0.mk H
           clear H
           go_wp2_with (first | (go_at_call 22; (with_reducible refine (kingpinlaw08_listed.calls kj34 _ _ l1 4 t259 _ ?side1 ?side2 A39.out).mono ?_); (case side1 => repeat (first | exact (Kd.C_below HR1.out HB.out) | (with_reducible refine Kd.C_alloc ?_ _) | (with_reducible refine Kd.C_drewN ?_ _) | (with_reducible refine Kd.C_drew ?_))); (case side2 => exact HC1.out); rintro e w' ⟨rfl, ⟨nd, rfl⟩⟩))
           go_meet
           case rel => exact ⟨_, (!t259), (by first | rfl | (simp; done) | (simp [*]; done)), H', ⟨by have := HJ2.out; have := HJ20.out; have := HJ34.out; first | omega | exact Nat.le_refl _⟩, ⟨by (with_reducible repeat (first | apply Kd.R_alloc | apply Kd.R_drewN | apply Kd.R_drew)); exact HO_6.out⟩, ⟨by (with_reducible repeat (first | refine blk_drewN ?_ _ | refine blk_drew ?_ | refine blk_alloc ?_ _)); exact BK239.out⟩, ⟨by repeat (first | (with_reducible first | exact HB.out | apply below_alloc | apply pw_below_drewN | apply below_drew1 | refine below_set ?_ GE239.out) | exact HB.out)⟩⟩
          ·
           rw [if_neg c38] at H
           have c38b0 : (x8_34 == 0) = false := beq_eq_false_iff_ne.mpr c38
           have c38b1 : (x8_34 != 0) = true := bne_iff_ne.mpr c38
           (first | rw [c38b0] | (simp only [i64_w, i32_w]; rw [c38b0]) | skip)
           have H' := Aside0.mk H
           clear H
           go_wp2
           go_meet
           case rel => exact ⟨_, (false), (by first | rfl | (simp; done) | (simp [*]; done)), H', ⟨by have := HJ2.out; have := HJ20.out; have := HJ34.out; first | omega | exact Nat.le_refl _⟩, ⟨by (with_reducible repeat (first | apply Kd.R_alloc | apply Kd.R_drewN | apply Kd.R_drew)); exact HO_6.out⟩, ⟨by (with_reducible repeat (first | refine blk_drewN ?_ _ | refine blk_drew ?_ | refine blk_alloc ?_ _)); exact BK239.out⟩, ⟨by repeat (first | (with_reducible first | exact HB.out | apply below_alloc | apply pw_below_drewN | apply below_drew1 | refine below_set ?_ GE239.out) | exact HB.out)⟩⟩
         case rest =>
          clear HC37
          try clear c1
          try clear c2
          try clear p2
          try clear c3
          try clear c6
          try clear c11
          try clear c15
          try clear c16
          try clear c17
          try clear c18
          try clear c19
          try clear c20
          try clear c20b0
          try clear c20b1
          try clear c21
          try clear c34
          try clear c34b0
          try clear c34b1
          try clear c36
          try clear c38
          try clear c38b0
          try clear c38b1
          try clear hcz22_0
          try clear hcz22_1
          try clear hcz26_0
          try clear hcz26_1
          try clear hcz32_0
          try clear hcz32_1
          try clear hcz7_0
          try clear hcz7_1
          try clear hcz9_0
          try clear hcz9_1
          try clear hfz22_0
          try clear hfz22_1
          try clear hfz26_0
          try clear hfz26_1
          try clear hfz32_0
          try clear hfz32_1
          try clear hfz7_0
          try clear hfz7_1
          try clear hfz9_0
          try clear hfz9_1
          try clear p2
          obtain ⟨kq, x47_36, rfl, HA, HJ36, HO_6, BK239, HB⟩ := hcut
          cases kq with
          | zero => exact absurd HA.out (by simp [kingpinlaw08_LeagueRanks.j3])
          | succ kj36 =>
           have H := HA.out
           clear HA
           simp only [kingpinlaw08_LeagueRanks.j3] at H
           have HC40 := Aside0.mk H
           clear H
           go_upto_if 47 with (fail)
           go_cut [8] (fun v8 wc => ∃ (kq : Nat) (x8_39 : Int), v8 = .int .i64 x8_39 ∧ Aside0 (kingpinlaw08_LeagueRanks.j4 kq l1 t254 t257 x8_39 a0_0 l0_1 = some r) ∧ Aside0 (kq ≤ kj36) ∧ Aside0 (Kd.R (Kd.int .i64) 3 wc w.heap.size (fun _ => True) v255 t254) ∧ Aside0 (wc.heap[gb239]? = some (.cells #[.int .i64 a0_0, (.slice A0_1 l0_1.length c0_1)] 24 (0, 0))) ∧ Aside0 (Below w.heap.size w wc))
           case first =>
            have H := HC40.out
            clear HC40
            by_cases c41 : x47_36 = true
            ·
             subst c41
             have H1 : (kingpinlaw08_LeagueRanks.j4 kj36 l1 t254 t257 2 a0_0 l0_1) = some r := by rw [if_pos rfl] at H; exact H
             clear H
             have H := H1
             clear H1
             have H' := Aside0.mk H
             clear H
             go_wp2
             go_meet
             case rel => exact ⟨_, (2), (by first | rfl | (simp; done) | (simp [*]; done)), H', ⟨by have := HJ2.out; have := HJ20.out; have := HJ34.out; have := HJ36.out; first | omega | exact Nat.le_refl _⟩, ⟨by (with_reducible repeat (first | apply Kd.R_alloc | apply Kd.R_drewN | apply Kd.R_drew)); exact HO_6.out⟩, ⟨by (with_reducible repeat (first | refine blk_drewN ?_ _ | refine blk_drew ?_ | refine blk_alloc ?_ _)); exact BK239.out⟩, ⟨by repeat (first | (with_reducible first | exact HB.out | apply below_alloc | apply pw_below_drewN | apply below_drew1 | refine below_set ?_ GE239.out) | exact HB.out)⟩⟩
            ·
             replace c41 := Bool.eq_false_iff.mpr c41
             subst c41
             have H1 : (kingpinlaw08_LeagueRanks.j4 kj36 l1 t254 t257 x8_34 a0_0 l0_1) = some r := by rw [if_neg (show ¬ (false = true) by decide)] at H; exact H
             clear H
             have H := H1
             clear H1
             have H' := Aside0.mk H
             clear H
             go_wp2
             go_meet
             case rel => exact ⟨_, (x8_34), (by first | rfl | (simp; done) | (simp [*]; done)), H', ⟨by have := HJ2.out; have := HJ20.out; have := HJ34.out; have := HJ36.out; first | omega | exact Nat.le_refl _⟩, ⟨by (with_reducible repeat (first | apply Kd.R_alloc | apply Kd.R_drewN | apply Kd.R_drew)); exact HO_6.out⟩, ⟨by (with_reducible repeat (first | refine blk_drewN ?_ _ | refine blk_drew ?_ | refine blk_alloc ?_ _)); exact BK239.out⟩, ⟨by repeat (first | (with_reducible first | exact HB.out | apply below_alloc | apply pw_below_drewN | apply below_drew1 | refine below_set ?_ GE239.out) | exact HB.out)⟩⟩
           case rest =>
            clear HC40
            try clear c1
            try clear c2
            try clear p2
            try clear c3
            try clear c4
            try clear c6
            try clear c11
            try clear c15
            try clear c16
            try clear c17
            try clear c18
            try clear c19
            try clear c20
            try clear c20b0
            try clear c20b1
            try clear c21
            try clear c34
            try clear c34b0
            try clear c34b1
            try clear c36
            try clear c38
            try clear c38b0
            try clear c38b1
            try clear c41
            try clear hcz22_0
            try clear hcz22_1
            try clear hcz26_0
            try clear hcz26_1
            try clear hcz32_0
            try clear hcz32_1
            try clear hcz7_0
            try clear hcz7_1
            try clear hcz9_0
            try clear hcz9_1
            try clear hfz22_0
            try clear hfz22_1
            try clear hfz26_0
            try clear hfz26_1
            try clear hfz32_0
            try clear hfz32_1
            try clear hfz7_0
            try clear hfz7_1
            try clear hfz9_0
            try clear hfz9_1
            try clear p2
            obtain ⟨kq, x8_39, rfl, HA, HJ39, HO_6, BK239, HB⟩ := hcut
            cases kq with
            | zero => exact absurd HA.out (by simp [kingpinlaw08_LeagueRanks.j4])
            | succ kj39 =>
             have H := HA.out
             clear HA
             simp only [kingpinlaw08_LeagueRanks.j4] at H
             by_cases c42 : x8_39 = 0
             ·
              rw [if_pos c42] at H
              have c42b0 : (x8_39 == 0) = true := beq_iff_eq.mpr c42
              have c42b1 : (x8_39 != 0) = false := bne_eq_false_iff_eq.mpr c42
              clear c42
              by_cases c43 : t257 = 0
              ·
               rw [if_pos c43] at H
               have c43b0 : (t257 == 0) = true := beq_iff_eq.mpr c43
               have c43b1 : (t257 != 0) = false := bne_eq_false_iff_eq.mpr c43
               clear c43
               replace H := Option.bind_eq_some_iff.mp H
               obtain ⟨t260, A440, H⟩ := H
               replace H : ((kingpinlaw08_ints.f kj39 t254 t260).bind fun t263 => (if t263 = true then ((kingpinlaw08_awake.f).bind fun t264 => (some t264)) else (some false))) = some r := H
               have A44 := Aside0.mk A440
               clear A440
               replace H := Option.bind_eq_some_iff.mp H
               obtain ⟨t263, A450, H⟩ := H
               replace H : (if t263 = true then ((kingpinlaw08_awake.f).bind fun t264 => (some t264)) else (some false)) = some r := H
               have A45 := Aside0.mk A450
               clear A450
               by_cases c46 : t263 = true
               ·
                subst c46
                have H1 : ((kingpinlaw08_awake.f).bind fun t264 => (some t264)) = some r := by rw [if_pos rfl] at H; exact H
                clear H
                have H := H1
                clear H1
                replace H := Option.bind_eq_some_iff.mp H
                obtain ⟨t264, A470, H⟩ := H
                replace H : (some t264) = some r := H
                have A47 := Aside0.mk A470
                clear A470
                obtain rfl := Option.some.inj H
                have hcz48_0 : wc.cell? ⟨gb239, 0, none⟩ = some (.int .i64 a0_0) := (blk_cell BK239.out 0).trans rfl
                have hcz48_1 : wc.cell? ⟨gb239, 1, none⟩ = some (.slice A0_1 l0_1.length c0_1) := (blk_cell BK239.out 1).trans rfl
                have hfz48_0 := blk_frozen BK239.out 0
                have hfz48_1 := blk_frozen BK239.out 1
                go_wp2_with (first | (go_at_call 24; (with_reducible refine (kingpinref08_Rank.calls kj39 a0_0 _ _ l0_1 _ _ l1 t260 _ ?side1 ?side2 ?side3 ?side4 A44.out).mono ?_); (case side1 => repeat (first | exact (Kd.C_below HR0_1.out HB.out) | (with_reducible refine Kd.C_alloc ?_ _) | (with_reducible refine Kd.C_drewN ?_ _) | (with_reducible refine Kd.C_drew ?_))); (case side2 => exact HC0_1.out); (case side3 => repeat (first | exact (Kd.C_below HR1.out HB.out) | (with_reducible refine Kd.C_alloc ?_ _) | (with_reducible refine Kd.C_drewN ?_ _) | (with_reducible refine Kd.C_drew ?_))); (case side4 => exact HC1.out); rintro e w49 ⟨v261, rfl, ho0, hb⟩; have n0_ := Aside0.mk (Kd.R_elder' (by (with_reducible repeat (first | apply Kd.R_alloc | apply Kd.R_drewN | apply Kd.R_drew)); exact HO_6.out) (Kd.R_base ho0) hb); have n1_ := Aside0.mk (Kd.R_lower (Kd.R_new' ho0 (Kd.R_lt (by (with_reducible repeat (first | apply Kd.R_alloc | apply Kd.R_drewN | apply Kd.R_drew)); exact HO_6.out))) (below_size (by repeat (first | (with_reducible first | exact HB.out | apply below_alloc | apply pw_below_drewN | apply below_drew1 | refine below_set ?_ GE239.out) | exact HB.out)))); have n2_ := Aside0.mk (blk_below (g := gb239) (o := .cells #[.int .i64 a0_0, .slice A0_1 l0_1.length c0_1] 24 (0, 0)) (by (with_reducible repeat (first | refine blk_drewN ?_ _ | refine blk_drew ?_ | refine blk_alloc ?_ _)); exact BK239.out) hb); have n3_ := Aside0.mk (below_step (by repeat (first | (with_reducible first | exact HB.out | apply below_alloc | apply pw_below_drewN | apply below_drew1 | refine below_set ?_ GE239.out) | exact HB.out)) hb); clear HO_6; clear BK239; clear HB; have HO_6 := n0_; have HO262 := n1_; have BK239 := n2_; have HB := n3_; clear n0_ n1_ n2_ n3_; (try clear hb); (try clear hb2); (try clear hk); (try clear hi); (try clear ho0); obtain ⟨Ao50, co50, eo50⟩ := Kd.R_slice HO_6.out; subst eo50; obtain ⟨Ao51, co51, eo51⟩ := Kd.R_slice HO262.out; subst eo51) | (go_at_call 23; (with_reducible refine (kingpinlaw08_ints.calls kj39 _ _ t254 _ _ t260 true _ ?side1 ?side2 ?side3 ?side4 A45.out).mono ?_); (case side1 => repeat (first | exact (Kd.R_reads' HO_6.out).2.2 | (with_reducible refine Kd.C_alloc ?_ _) | (with_reducible refine Kd.C_drewN ?_ _) | (with_reducible refine Kd.C_drew ?_))); (case side2 => exact (Kd.R_reads' HO_6.out).2.1); (case side3 => repeat (first | exact (Kd.R_reads' HO262.out).2.2 | (with_reducible refine Kd.C_alloc ?_ _) | (with_reducible refine Kd.C_drewN ?_ _) | (with_reducible refine Kd.C_drew ?_))); (case side4 => exact (Kd.R_reads' HO262.out).2.1); rintro e w' ⟨rfl, ⟨nd, rfl⟩⟩) | (go_at_call 16; (with_reducible refine (kingpinlaw08_awake.calls  t264 _ A47.out).mono ?_); rintro e w52 ⟨rfl, hb⟩; have n0_ := Aside0.mk (Kd.R_below (by (with_reducible repeat (first | apply Kd.R_alloc | apply Kd.R_drewN | apply Kd.R_drew)); exact HO_6.out) hb); have n1_ := Aside0.mk (Kd.R_below (by (with_reducible repeat (first | apply Kd.R_alloc | apply Kd.R_drewN | apply Kd.R_drew)); exact HO262.out) hb); have n2_ := Aside0.mk (blk_below (g := gb239) (o := .cells #[.int .i64 a0_0, .slice A0_1 l0_1.length c0_1] 24 (0, 0)) (by (with_reducible repeat (first | refine blk_drewN ?_ _ | refine blk_drew ?_ | refine blk_alloc ?_ _)); exact BK239.out) hb); have n3_ := Aside0.mk (below_step (by repeat (first | (with_reducible first | exact HB.out | apply below_alloc | apply pw_below_drewN | apply below_drew1 | refine below_set ?_ GE239.out) | exact HB.out)) hb); clear HO_6; clear HO262; clear BK239; clear HB; have HO_6 := n0_; have HO262 := n1_; have BK239 := n2_; have HB := n3_; clear n0_ n1_ n2_ n3_; (try clear hb); (try clear hb2); (try clear hk); (try clear hi)))
                go_ret
                exact ⟨by first | rfl | (simp [errW_none, errW_some] <;> rfl) | (simp [*, errW_none, errW_some] <;> rfl), by repeat (first | (with_reducible first | exact HB.out | apply below_alloc | apply pw_below_drewN | apply below_drew1 | refine below_set ?_ GE239.out) | exact HB.out)⟩
               ·
                replace c46 := Bool.eq_false_iff.mpr c46
                subst c46
                have H1 : (some false) = some r := by rw [if_neg (show ¬ (false = true) by decide)] at H; exact H
                clear H
                have H := H1
                clear H1
                obtain rfl := Option.some.inj H
                have hcz53_0 : wc.cell? ⟨gb239, 0, none⟩ = some (.int .i64 a0_0) := (blk_cell BK239.out 0).trans rfl
                have hcz53_1 : wc.cell? ⟨gb239, 1, none⟩ = some (.slice A0_1 l0_1.length c0_1) := (blk_cell BK239.out 1).trans rfl
                have hfz53_0 := blk_frozen BK239.out 0
                have hfz53_1 := blk_frozen BK239.out 1
                go_wp2_with (first | (go_at_call 24; (with_reducible refine (kingpinref08_Rank.calls kj39 a0_0 _ _ l0_1 _ _ l1 t260 _ ?side1 ?side2 ?side3 ?side4 A44.out).mono ?_); (case side1 => repeat (first | exact (Kd.C_below HR0_1.out HB.out) | (with_reducible refine Kd.C_alloc ?_ _) | (with_reducible refine Kd.C_drewN ?_ _) | (with_reducible refine Kd.C_drew ?_))); (case side2 => exact HC0_1.out); (case side3 => repeat (first | exact (Kd.C_below HR1.out HB.out) | (with_reducible refine Kd.C_alloc ?_ _) | (with_reducible refine Kd.C_drewN ?_ _) | (with_reducible refine Kd.C_drew ?_))); (case side4 => exact HC1.out); rintro e w54 ⟨v261, rfl, ho0, hb⟩; have n0_ := Aside0.mk (Kd.R_elder' (by (with_reducible repeat (first | apply Kd.R_alloc | apply Kd.R_drewN | apply Kd.R_drew)); exact HO_6.out) (Kd.R_base ho0) hb); have n1_ := Aside0.mk (Kd.R_lower (Kd.R_new' ho0 (Kd.R_lt (by (with_reducible repeat (first | apply Kd.R_alloc | apply Kd.R_drewN | apply Kd.R_drew)); exact HO_6.out))) (below_size (by repeat (first | (with_reducible first | exact HB.out | apply below_alloc | apply pw_below_drewN | apply below_drew1 | refine below_set ?_ GE239.out) | exact HB.out)))); have n2_ := Aside0.mk (blk_below (g := gb239) (o := .cells #[.int .i64 a0_0, .slice A0_1 l0_1.length c0_1] 24 (0, 0)) (by (with_reducible repeat (first | refine blk_drewN ?_ _ | refine blk_drew ?_ | refine blk_alloc ?_ _)); exact BK239.out) hb); have n3_ := Aside0.mk (below_step (by repeat (first | (with_reducible first | exact HB.out | apply below_alloc | apply pw_below_drewN | apply below_drew1 | refine below_set ?_ GE239.out) | exact HB.out)) hb); clear HO_6; clear BK239; clear HB; have HO_6 := n0_; have HO262 := n1_; have BK239 := n2_; have HB := n3_; clear n0_ n1_ n2_ n3_; (try clear hb); (try clear hb2); (try clear hk); (try clear hi); (try clear ho0); obtain ⟨Ao55, co55, eo55⟩ := Kd.R_slice HO_6.out; subst eo55; obtain ⟨Ao56, co56, eo56⟩ := Kd.R_slice HO262.out; subst eo56) | (go_at_call 23; (with_reducible refine (kingpinlaw08_ints.calls kj39 _ _ t254 _ _ t260 false _ ?side1 ?side2 ?side3 ?side4 A45.out).mono ?_); (case side1 => repeat (first | exact (Kd.R_reads' HO_6.out).2.2 | (with_reducible refine Kd.C_alloc ?_ _) | (with_reducible refine Kd.C_drewN ?_ _) | (with_reducible refine Kd.C_drew ?_))); (case side2 => exact (Kd.R_reads' HO_6.out).2.1); (case side3 => repeat (first | exact (Kd.R_reads' HO262.out).2.2 | (with_reducible refine Kd.C_alloc ?_ _) | (with_reducible refine Kd.C_drewN ?_ _) | (with_reducible refine Kd.C_drew ?_))); (case side4 => exact (Kd.R_reads' HO262.out).2.1); rintro e w' ⟨rfl, ⟨nd, rfl⟩⟩))
                go_ret
                exact ⟨by first | rfl | (simp [errW_none, errW_some] <;> rfl) | (simp [*, errW_none, errW_some] <;> rfl), by repeat (first | (with_reducible first | exact HB.out | apply below_alloc | apply pw_below_drewN | apply below_drew1 | refine below_set ?_ GE239.out) | exact HB.out)⟩
              ·
               rw [if_neg c43] at H
               have c43b0 : (t257 == 0) = false := beq_eq_false_iff_ne.mpr c43
               have c43b1 : (t257 != 0) = true := bne_iff_ne.mpr c43
               obtain rfl := Option.some.inj H
               go_wp2
               go_ret
               exact ⟨by first | rfl | (simp [errW_none, errW_some] <;> rfl) | (simp [*, errW_none, errW_some] <;> rfl), by repeat (first | (with_reducible first | exact HB.out | apply below_alloc | apply pw_below_drewN | apply below_drew1 | refine below_set ?_ GE239.out) | exact HB.out)⟩
             ·
              rw [if_neg c42] at H
              have c42b0 : (x8_39 == 0) = false := beq_eq_false_iff_ne.mpr c42
              have c42b1 : (x8_39 != 0) = true := bne_iff_ne.mpr c42
              by_cases c57 : t257 = x8_39
              ·
               rw [if_pos c57] at H
               have c57b0 : (t257 == x8_39) = true := beq_iff_eq.mpr c57
               have c57b1 : (t257 != x8_39) = false := bne_eq_false_iff_eq.mpr c57
               clear c57
               by_cases c58 : (t254.length : Int) = 0
               ·
                rw [if_pos c58] at H
                have c58b0 : ((t254.length : Int) == 0) = true := beq_iff_eq.mpr c58
                have c58b1 : ((t254.length : Int) != 0) = false := bne_eq_false_iff_eq.mpr c58
                clear c58
                replace H := Option.bind_eq_some_iff.mp H
                obtain ⟨t265, A590, H⟩ := H
                replace H : (some t265) = some r := H
                have A59 := Aside0.mk A590
                clear A590
                obtain rfl := Option.some.inj H
                obtain ⟨Ao60, co60, eo60⟩ := Kd.R_slice HO_6.out
                subst eo60
                go_wp2_with (first | (go_at_call 16; (with_reducible refine (kingpinlaw08_awake.calls  t265 _ A59.out).mono ?_); rintro e w61 ⟨rfl, hb⟩; have n0_ := Aside0.mk (Kd.R_below (by (with_reducible repeat (first | apply Kd.R_alloc | apply Kd.R_drewN | apply Kd.R_drew)); exact HO_6.out) hb); have n1_ := Aside0.mk (blk_below (g := gb239) (o := .cells #[.int .i64 a0_0, .slice A0_1 l0_1.length c0_1] 24 (0, 0)) (by (with_reducible repeat (first | refine blk_drewN ?_ _ | refine blk_drew ?_ | refine blk_alloc ?_ _)); exact BK239.out) hb); have n2_ := Aside0.mk (below_step (by repeat (first | (with_reducible first | exact HB.out | apply below_alloc | apply pw_below_drewN | apply below_drew1 | refine below_set ?_ GE239.out) | exact HB.out)) hb); clear HO_6; clear BK239; clear HB; have HO_6 := n0_; have BK239 := n1_; have HB := n2_; clear n0_ n1_ n2_; (try clear hb); (try clear hb2); (try clear hk); (try clear hi)))
                go_ret
                exact ⟨by first | rfl | (simp [errW_none, errW_some] <;> rfl) | (simp [*, errW_none, errW_some] <;> rfl), by repeat (first | (with_reducible first | exact HB.out | apply below_alloc | apply pw_below_drewN | apply below_drew1 | refine below_set ?_ GE239.out) | exact HB.out)⟩
               ·
                rw [if_neg c58] at H
                have c58b0 : ((t254.length : Int) == 0) = false := beq_eq_false_iff_ne.mpr c58
                have c58b1 : ((t254.length : Int) != 0) = true := bne_iff_ne.mpr c58
                have c58b2 : ¬ (t254 = []) := fun h_ => c58 (by rw [h_]; rfl)
                obtain rfl := Option.some.inj H
                obtain ⟨Ao62, co62, eo62⟩ := Kd.R_slice HO_6.out
                subst eo62
                go_wp2
                go_ret
                exact ⟨by first | rfl | (simp [errW_none, errW_some] <;> rfl) | (simp [*, errW_none, errW_some] <;> rfl), by repeat (first | (with_reducible first | exact HB.out | apply below_alloc | apply pw_below_drewN | apply below_drew1 | refine below_set ?_ GE239.out) | exact HB.out)⟩
              ·
               rw [if_neg c57] at H
               have c57b0 : (t257 == x8_39) = false := beq_eq_false_iff_ne.mpr c57
               have c57b1 : (t257 != x8_39) = true := bne_iff_ne.mpr c57
               obtain rfl := Option.some.inj H
               go_wp2
               go_ret
               exact ⟨by first | rfl | (simp [errW_none, errW_some] <;> rfl) | (simp [*, errW_none, errW_some] <;> rfl), by repeat (first | (with_reducible first | exact HB.out | apply below_alloc | apply pw_below_drewN | apply below_drew1 | refine below_set ?_ GE239.out) | exact HB.out)⟩
    ·
     rw [if_neg c20] at H
     have c20b0 : (t246 == t258) = false := beq_eq_false_iff_ne.mpr c20
     have c20b1 : (t246 != t258) = true := bne_iff_ne.mpr c20
     obtain rfl := Option.some.inj H
     have hcz63_0 : wc.cell? ⟨gb239, 0, none⟩ = some (.int .i64 a0_0) := (blk_cell BK239.out 0).trans rfl
     have hcz63_1 : wc.cell? ⟨gb239, 1, none⟩ = some (.slice A0_1 l0_1.length c0_1) := (blk_cell BK239.out 1).trans rfl
     have hfz63_0 := blk_frozen BK239.out 0
     have hfz63_1 := blk_frozen BK239.out 1
     go_wp2_with (first | ((with_reducible refine gate_callee (f := 18) rfl ?_); refine goesL_ (some 19) rfl rfl Try.func18 (by kernel_rfl) rfl #[.agg #[.int .i64 a0_0, .slice A0_1 l0_1.length c0_1]] rfl (by (try simp only [List.map_toArray, List.map_cons, List.map_nil]); first | done | rfl | (simp only [List.length_drop, List.length_take]; rfl)) ?_; (with_reducible refine (kingpinlaw08_League.calls kj2 a0_0 _ _ l0_1 t242 t243 _ ?side1 ?side2 A14.out).mono ?_); (case side1 => repeat (first | exact (Kd.C_below HR0_1.out HB.out) | (with_reducible refine Kd.C_alloc ?_ _) | (with_reducible refine Kd.C_drewN ?_ _) | (with_reducible refine Kd.C_drew ?_))); (case side2 => exact HC0_1.out); rintro e w64 ⟨v244, rfl, ho0, hb⟩; refine ⟨_, rfl, ?_⟩; have n0_ := Aside0.mk (Kd.R_lower ho0 (below_size (by repeat (first | (with_reducible first | exact HB.out | apply below_alloc | apply pw_below_drewN | apply below_drew1 | refine below_set ?_ GE239.out) | exact HB.out)))); have n1_ := Aside0.mk (blk_below (g := gb239) (o := .cells #[.int .i64 a0_0, .slice A0_1 l0_1.length c0_1] 24 (0, 0)) (by (with_reducible repeat (first | refine blk_drewN ?_ _ | refine blk_drew ?_ | refine blk_alloc ?_ _)); exact BK239.out) hb); have n2_ := Aside0.mk (below_step (by repeat (first | (with_reducible first | exact HB.out | apply below_alloc | apply pw_below_drewN | apply below_drew1 | refine below_set ?_ GE239.out) | exact HB.out)) hb); clear BK239; clear HB; have HO245 := n0_; have BK239 := n1_; have HB := n2_; clear n0_ n1_ n2_; (try clear hb); (try clear hb2); (try clear hk); (try clear hi); (try clear ho0); obtain ⟨Ao65, co65, eo65⟩ := Kd.R_slice HO245.out; subst eo65) | ((with_reducible refine gate_callee (f := 17) rfl ?_); refine goesL_ (some 20) rfl rfl Try.func17 (by kernel_rfl) rfl #[.agg #[.int .i64 t242, .slice Ao65 t243.length co65]] rfl (by (try simp only [List.map_toArray, List.map_cons, List.map_nil]); first | done | rfl | (simp only [List.length_drop, List.length_take]; rfl)) ?_; (with_reducible refine (league_CheckLeague.calls t242 _ _ t243 t246 _ ?side1 ?side2 A15.out).mono ?_); (case side1 => repeat (first | exact (Kd.R_reads' HO245.out).2.2 | (with_reducible refine Kd.C_alloc ?_ _) | (with_reducible refine Kd.C_drewN ?_ _) | (with_reducible refine Kd.C_drew ?_))); (case side2 => exact (Kd.R_reads' HO245.out).2.1); rintro e w66 ⟨rfl, hb⟩; refine ⟨_, rfl, ?_⟩; have n0_ := Aside0.mk (Kd.R_below (by (with_reducible repeat (first | apply Kd.R_alloc | apply Kd.R_drewN | apply Kd.R_drew)); exact HO245.out) hb); have n1_ := Aside0.mk (blk_below (g := gb239) (o := .cells #[.int .i64 a0_0, .slice A0_1 l0_1.length c0_1] 24 (0, 0)) (by (with_reducible repeat (first | refine blk_drewN ?_ _ | refine blk_drew ?_ | refine blk_alloc ?_ _)); exact BK239.out) hb); have n2_ := Aside0.mk (below_step (by repeat (first | (with_reducible first | exact HB.out | apply below_alloc | apply pw_below_drewN | apply below_drew1 | refine below_set ?_ GE239.out) | exact HB.out)) hb); clear HO245; clear BK239; clear HB; have HO245 := n0_; have BK239 := n1_; have HB := n2_; clear n0_ n1_ n2_; (try clear hb); (try clear hb2); (try clear hk); (try clear hi); have hcz67_0 : w66.cell? ⟨gb239, 0, none⟩ = some (.int .i64 a0_0) := (blk_cell BK239.out 0).trans rfl; have hcz67_1 : w66.cell? ⟨gb239, 1, none⟩ = some (.slice A0_1 l0_1.length c0_1) := (blk_cell BK239.out 1).trans rfl; have hfz67_0 := blk_frozen BK239.out 0; have hfz67_1 := blk_frozen BK239.out 1) | ((with_reducible refine gate_callee (f := 18) rfl ?_); refine goesL_ (some 23) rfl rfl Try.func18 (by kernel_rfl) rfl #[.agg #[.int .i64 a0_0, .slice A0_1 l0_1.length c0_1]] rfl (by (try simp only [List.map_toArray, List.map_cons, List.map_nil]); first | done | rfl | (simp only [List.length_drop, List.length_take]; rfl)) ?_; (with_reducible refine (kingpinlaw08_League.calls kj2 a0_0 _ _ l0_1 t247 t248 _ ?side1 ?side2 A16.out).mono ?_); (case side1 => repeat (first | exact (Kd.C_below HR0_1.out HB.out) | (with_reducible refine Kd.C_alloc ?_ _) | (with_reducible refine Kd.C_drewN ?_ _) | (with_reducible refine Kd.C_drew ?_))); (case side2 => exact HC0_1.out); rintro e w68 ⟨v249, rfl, ho0, hb⟩; refine ⟨_, rfl, ?_⟩; have n0_ := Aside0.mk (Kd.R_elder' (by (with_reducible repeat (first | apply Kd.R_alloc | apply Kd.R_drewN | apply Kd.R_drew)); exact HO245.out) (Kd.R_base ho0) hb); have n1_ := Aside0.mk (Kd.R_lower (Kd.R_new' ho0 (Kd.R_lt (by (with_reducible repeat (first | apply Kd.R_alloc | apply Kd.R_drewN | apply Kd.R_drew)); exact HO245.out))) (below_size (by repeat (first | (with_reducible first | exact HB.out | apply below_alloc | apply pw_below_drewN | apply below_drew1 | refine below_set ?_ GE239.out) | exact HB.out)))); have n2_ := Aside0.mk (blk_below (g := gb239) (o := .cells #[.int .i64 a0_0, .slice A0_1 l0_1.length c0_1] 24 (0, 0)) (by (with_reducible repeat (first | refine blk_drewN ?_ _ | refine blk_drew ?_ | refine blk_alloc ?_ _)); exact BK239.out) hb); have n3_ := Aside0.mk (below_step (by repeat (first | (with_reducible first | exact HB.out | apply below_alloc | apply pw_below_drewN | apply below_drew1 | refine below_set ?_ GE239.out) | exact HB.out)) hb); clear HO245; clear BK239; clear HB; have HO245 := n0_; have HO250 := n1_; have BK239 := n2_; have HB := n3_; clear n0_ n1_ n2_ n3_; (try clear hb); (try clear hb2); (try clear hk); (try clear hi); (try clear ho0)) | ((with_reducible refine gate_callee (f := 20) rfl ?_); refine goesL_ (some 25) rfl rfl Try.func20 (by kernel_rfl) rfl #[.slice A1 l1.length c1] rfl (by (try simp only [List.map_toArray, List.map_cons, List.map_nil]); first | done | rfl | (simp only [List.length_drop, List.length_take]; rfl)) ?_; (with_reducible refine (kingpinlaw08_codes.calls _ _ l1 t251 _ ?side1 ?side2 A17.out).mono ?_); (case side1 => repeat (first | exact (Kd.C_below HR1.out HB.out) | (with_reducible refine Kd.C_alloc ?_ _) | (with_reducible refine Kd.C_drewN ?_ _) | (with_reducible refine Kd.C_drew ?_))); (case side2 => exact HC1.out); rintro e w69 ⟨v252, rfl, ho0, hb⟩; refine ⟨_, rfl, ?_⟩; have n0_ := Aside0.mk (Kd.R_below (by (with_reducible repeat (first | apply Kd.R_alloc | apply Kd.R_drewN | apply Kd.R_drew)); exact HO245.out) hb); have n1_ := Aside0.mk (Kd.R_below (by (with_reducible repeat (first | apply Kd.R_alloc | apply Kd.R_drewN | apply Kd.R_drew)); exact HO250.out) hb); have n2_ := Aside0.mk (Kd.R_lower ho0 (below_size (by repeat (first | (with_reducible first | exact HB.out | apply below_alloc | apply pw_below_drewN | apply below_drew1 | refine below_set ?_ GE239.out) | exact HB.out)))); have n3_ := Aside0.mk (blk_below (g := gb239) (o := .cells #[.int .i64 a0_0, .slice A0_1 l0_1.length c0_1] 24 (0, 0)) (by (with_reducible repeat (first | refine blk_drewN ?_ _ | refine blk_drew ?_ | refine blk_alloc ?_ _)); exact BK239.out) hb); have n4_ := Aside0.mk (below_step (by repeat (first | (with_reducible first | exact HB.out | apply below_alloc | apply pw_below_drewN | apply below_drew1 | refine below_set ?_ GE239.out) | exact HB.out)) hb); clear HO245; clear HO250; clear BK239; clear HB; have HO245 := n0_; have HO250 := n1_; have HO253 := n2_; have BK239 := n3_; have HB := n4_; clear n0_ n1_ n2_ n3_ n4_; (try clear hb); (try clear hb2); (try clear hk); (try clear hi); (try clear ho0); obtain ⟨Ao70, co70, eo70⟩ := Kd.R_slice HO250.out; subst eo70; obtain ⟨Ao71, co71, eo71⟩ := Kd.R_slice HO253.out; subst eo71) | ((with_reducible refine gate_callee (f := 19) rfl ?_); refine goesL_ (some 26) rfl rfl Try.func19 (by kernel_rfl) rfl #[.agg #[.int .i64 t247, .slice Ao70 t248.length co70], .slice Ao71 t251.length co71] rfl (by (try simp only [List.map_toArray, List.map_cons, List.map_nil]); first | done | rfl | (simp only [List.length_drop, List.length_take]; rfl)) ?_; (with_reducible refine (league_Rank.calls kj2 t247 _ _ t248 _ _ t251 t254 t257 _ ?side1 ?side2 ?side3 ?side4 A18.out).mono ?_); (case side1 => repeat (first | exact (Kd.R_reads' HO250.out).2.2 | (with_reducible refine Kd.C_alloc ?_ _) | (with_reducible refine Kd.C_drewN ?_ _) | (with_reducible refine Kd.C_drew ?_))); (case side2 => exact (Kd.R_reads' HO250.out).2.1); (case side3 => repeat (first | exact (Kd.R_reads' HO253.out).2.2 | (with_reducible refine Kd.C_alloc ?_ _) | (with_reducible refine Kd.C_drewN ?_ _) | (with_reducible refine Kd.C_drew ?_))); (case side4 => exact (Kd.R_reads' HO253.out).2.1); rintro e w72 ⟨v255, rfl, ho0, hb⟩; refine ⟨_, rfl, ?_⟩; have n0_ := Aside0.mk (Kd.R_below (by (with_reducible repeat (first | apply Kd.R_alloc | apply Kd.R_drewN | apply Kd.R_drew)); exact HO245.out) hb); have n1_ := Aside0.mk (Kd.R_below (by (with_reducible repeat (first | apply Kd.R_alloc | apply Kd.R_drewN | apply Kd.R_drew)); exact HO250.out) hb); have n2_ := Aside0.mk (Kd.R_below (by (with_reducible repeat (first | apply Kd.R_alloc | apply Kd.R_drewN | apply Kd.R_drew)); exact HO253.out) hb); have n3_ := Aside0.mk (Kd.R_lower ho0 (below_size (by repeat (first | (with_reducible first | exact HB.out | apply below_alloc | apply pw_below_drewN | apply below_drew1 | refine below_set ?_ GE239.out) | exact HB.out)))); have n4_ := Aside0.mk (blk_below (g := gb239) (o := .cells #[.int .i64 a0_0, .slice A0_1 l0_1.length c0_1] 24 (0, 0)) (by (with_reducible repeat (first | refine blk_drewN ?_ _ | refine blk_drew ?_ | refine blk_alloc ?_ _)); exact BK239.out) hb); have n5_ := Aside0.mk (below_step (by repeat (first | (with_reducible first | exact HB.out | apply below_alloc | apply pw_below_drewN | apply below_drew1 | refine below_set ?_ GE239.out) | exact HB.out)) hb); clear HO245; clear HO250; clear HO253; clear BK239; clear HB; have HO245 := n0_; have HO250 := n1_; have HO253 := n2_; have HO256 := n3_; have BK239 := n4_; have HB := n5_; clear n0_ n1_ n2_ n3_ n4_ n5_; (try clear hb); (try clear hb2); (try clear hk); (try clear hi); (try clear ho0); have hcz73_0 : w72.cell? ⟨gb239, 0, none⟩ = some (.int .i64 a0_0) := (blk_cell BK239.out 0).trans rfl; have hcz73_1 : w72.cell? ⟨gb239, 1, none⟩ = some (.slice A0_1 l0_1.length c0_1) := (blk_cell BK239.out 1).trans rfl; have hfz73_0 := blk_frozen BK239.out 0; have hfz73_1 := blk_frozen BK239.out 1) | ((with_reducible refine gate_callee (f := 21) rfl ?_); refine goesL_ (some 30) rfl rfl Try.func21 (by kernel_rfl) rfl #[.agg #[.int .i64 a0_0, .slice A0_1 l0_1.length c0_1]] rfl (by (try simp only [List.map_toArray, List.map_cons, List.map_nil]); first | done | rfl | (simp only [List.length_drop, List.length_take]; rfl)) ?_; (with_reducible refine (kingpinlaw08_fault.calls kj2 a0_0 _ _ l0_1 t258 _ ?side1 ?side2 A19.out).mono ?_); (case side1 => repeat (first | exact (Kd.C_below HR0_1.out HB.out) | (with_reducible refine Kd.C_alloc ?_ _) | (with_reducible refine Kd.C_drewN ?_ _) | (with_reducible refine Kd.C_drew ?_))); (case side2 => exact HC0_1.out); rintro e w74 ⟨rfl, hb⟩; refine ⟨_, rfl, ?_⟩; have n0_ := Aside0.mk (Kd.R_below (by (with_reducible repeat (first | apply Kd.R_alloc | apply Kd.R_drewN | apply Kd.R_drew)); exact HO245.out) hb); have n1_ := Aside0.mk (Kd.R_below (by (with_reducible repeat (first | apply Kd.R_alloc | apply Kd.R_drewN | apply Kd.R_drew)); exact HO250.out) hb); have n2_ := Aside0.mk (Kd.R_below (by (with_reducible repeat (first | apply Kd.R_alloc | apply Kd.R_drewN | apply Kd.R_drew)); exact HO253.out) hb); have n3_ := Aside0.mk (Kd.R_below (by (with_reducible repeat (first | apply Kd.R_alloc | apply Kd.R_drewN | apply Kd.R_drew)); exact HO256.out) hb); have n4_ := Aside0.mk (blk_below (g := gb239) (o := .cells #[.int .i64 a0_0, .slice A0_1 l0_1.length c0_1] 24 (0, 0)) (by (with_reducible repeat (first | refine blk_drewN ?_ _ | refine blk_drew ?_ | refine blk_alloc ?_ _)); exact BK239.out) hb); have n5_ := Aside0.mk (below_step (by repeat (first | (with_reducible first | exact HB.out | apply below_alloc | apply pw_below_drewN | apply below_drew1 | refine below_set ?_ GE239.out) | exact HB.out)) hb); clear HO245; clear HO250; clear HO253; clear HO256; clear BK239; clear HB; have HO245 := n0_; have HO250 := n1_; have HO253 := n2_; have HO256 := n3_; have BK239 := n4_; have HB := n5_; clear n0_ n1_ n2_ n3_ n4_ n5_; (try clear hb); (try clear hb2); (try clear hk); (try clear hi)))
     go_ret
     exact ⟨by first | rfl | (simp [errW_none, errW_some] <;> rfl) | (simp [*, errW_none, errW_some] <;> rfl), by repeat (first | (with_reducible first | exact HB.out | apply below_alloc | apply pw_below_drewN | apply below_drew1 | refine below_set ?_ GE239.out) | exact HB.out)⟩
end Go.Proofs.Ytmnamkcjldaoeaa.PAll
namespace Go.Proofs.Ytmnamkcjldaoeaa.PAll
open Go.RowKit Go.Proofs.YtmnamkcjldaoeaaW.PrintWords Go.Proofs.YtmnamkcjldaoeaaW.PrintLast Go.Proofs.YtmnamkcjldaoeaaW.PrintMore
set_option linter.unusedVariables false
set_option linter.unusedSimpArgs false
theorem codes_eq (l : List Int) (h : l.length ≤ 1000000) : kingpinlaw08_codes.f l = some l := by
 unfold kingpinlaw08_codes.f
 rw [if_pos h]
theorem rankOf_len (n : Int) (l : List S85) (rules : List Int) : (rankOf n l rules).length = n.toNat := by
 unfold rankOf
 have : ∀ (gs : List (List Int)) (out : List Int) (r : Int), (outsOf gs out r).length = out.length := by
  intro gs
  induction gs with
  | nil => exact fun _ _ => rfl
  | cons g gs ih => exact fun out r => (ih _ _).trans (setAll_len g out r)
 rw [this, List.length_replicate]
theorem Ranks_ev (a : Int) (l : List S70) (rules : List Int) : Ev (fun k => kingpinlaw08_LeagueRanks.f k a l rules) true := by
 have haw : ∀ (q : Bool), Ev (fun k => kingpinlaw08_LeagueRanks.j0 k rules true a l) true := fun _ =>
  Ev.step (f := fun k => (kingpinlaw08_awake.f).bind fun t => some t) (fun k => rfl) (Ev.bind awake_ev (Ev.now _))
 have hawk : Ev (fun k => (kingpinlaw08_awake.f).bind fun t => some t) true := Ev.bind awake_ev (Ev.now _)
 unfold kingpinlaw08_LeagueRanks.f kingpinlaw08_Thin.f
 simp only [Option.bind_some, decide_eq_true_eq]
 by_cases ht : (l.length : Int) ≤ 24
 ·
  simp only [if_pos ht]
  by_cases h9 : (rules.length : Int) > 9
  ·
   rw [decide_eq_true h9]
   exact haw true
  ·
   rw [decide_eq_false h9]
   obtain ⟨c, hcd⟩ : ∃ c, checkF a (l.map toG) = c := ⟨_, rfl⟩
   have hF := fault_ev a l (by omega)
   rw [hcd] at hF
   have hcode := codes_eq rules (by omega)
   have hR := Rank_ev a (l.map toG) rules
   obtain ⟨⟨r, e⟩, hre⟩ : ∃ p, rankF a (l.map toG) rules = p := ⟨_, rfl⟩
   rw [hre] at hR
   have hj4 : ∀ (x8 : Int), (x8 = 0 → e = 0 ∧ Ev (fun k => kingpinref08_Rank.f k a l rules) r ∧ r.length ≤ 1000) → (x8 ≠ 0 → e = x8 ∧ r = []) → Ev (fun k => kingpinlaw08_LeagueRanks.j4 k rules r e x8 a l) true := by
    intro x8 h1 h2
    by_cases hx : x8 = 0
    ·
     obtain ⟨he, hr, hl⟩ := h1 hx
     subst hx
     subst he
     refine Ev.step (f := fun k => (kingpinref08_Rank.f k a l rules).bind fun t => (kingpinlaw08_ints.f k r t).bind fun t => if t = true then (kingpinlaw08_awake.f).bind fun t => some t else some false) (fun k => rfl) ?_
     refine Ev.bind hr (Ev.bind (ints_self r (by omega)) ?_)
     exact hawk
    ·
     obtain ⟨he, hr⟩ := h2 hx
     subst he
     subst hr
     refine Ev.step (f := fun k => (kingpinlaw08_awake.f).bind fun t => some t) (fun k => ?_) hawk
     simp only [kingpinlaw08_LeagueRanks.j4]
     rw [if_neg hx, if_pos trivial, if_pos (by rfl)]
   refine Ev.step (f := fun k => (kingpinlaw08_League.f k a l).bind fun bt290 => ((league_CheckLeague.f bt290.1 bt290.2).bind fun t294 => ((kingpinlaw08_League.f k a l).bind fun bt295 => ((kingpinlaw08_codes.f rules).bind fun t299 => ((league_Rank.f k bt295.1 bt295.2 t299).bind fun bt302 => ((kingpinlaw08_fault.f k a l).bind fun t306 => (if t294 = t306 then (if t306 = 0 then (kingpinlaw08_LeagueRanks.j1 k rules bt302.1 bt302.2 t306 (decide ((rules.length : Int) > 6)) a l) else (kingpinlaw08_LeagueRanks.j1 k rules bt302.1 bt302.2 t306 false a l)) else (some false)))))))) (fun k => rfl) ?_
   refine Ev.bind (League_ev a l (by omega)) ?_
   simp only [league_CheckLeague.f, Option.bind_some, hcd]
   refine Ev.bind (League_ev a l (by omega)) ?_
   simp only [hcode, Option.bind_some]
   refine Ev.bind hR (Ev.bind hF ?_)
   simp only [eq_self, if_true]
   by_cases hc : c = 0
   ·
    subst hc
    simp only [if_true]
    obtain ⟨h20, n2, n6, hok⟩ := check_ok hcd
    by_cases h6 : (rules.length : Int) > 6
    ·
     have hre2 : r = [] ∧ e = 3 := by
      unfold rankF at hre
      rw [hcd, if_neg (by decide), if_pos (by omega)] at hre
      cases hre
      exact ⟨rfl, rfl⟩
     rw [decide_eq_true h6]
     refine Ev.step (f := fun k => kingpinlaw08_LeagueRanks.j2 k rules r e 3 a l) (fun k => rfl) ?_
     refine Ev.step (f := fun k => kingpinlaw08_LeagueRanks.j3 k rules r e 3 false a l) (fun k => rfl) ?_
     refine Ev.step (f := fun k => kingpinlaw08_LeagueRanks.j4 k rules r e 3 a l) (fun k => rfl) ?_
     exact hj4 3 (fun h => absurd h (by decide)) (fun _ => ⟨hre2.2, hre2.1⟩)
    ·
     rw [decide_eq_false h6]
     refine Ev.step (f := fun k => kingpinlaw08_LeagueRanks.j2 k rules r e 0 a l) (fun k => rfl) ?_
     refine Ev.step (f := fun k => (kingpinlaw08_listed.f k rules 4).bind fun t => kingpinlaw08_LeagueRanks.j3 k rules r e 0 (!t) a l) (fun k => rfl) ?_
     refine Ev.bind (listed_ev rules 4 (by omega)) ?_
     have hrb : (rules.all fun x => decide (1 ≤ x) && decide (x ≤ 4)) = rules.all ruleB := rfl
     rw [hrb]
     cases hb : rules.all ruleB with
     | true =>
      have hre2 : r = rankOf a (l.map toG) rules ∧ e = 0 := by
       unfold rankF at hre
       rw [hcd, if_neg (by decide), if_neg (by omega), if_pos hb] at hre
       cases hre
       exact ⟨rfl, rfl⟩
      refine Ev.step (f := fun k => kingpinlaw08_LeagueRanks.j4 k rules r e 0 a l) (fun k => rfl) ?_
      refine hj4 0 (fun _ => ⟨hre2.2, ?_, ?_⟩) (fun h => absurd rfl h)
      ·
       rw [hre2.1]
       refine RRank_ev a l rules hcd (fun x hx => ?_) (by omega)
       have := (List.all_eq_true.1 hb) x hx
       simpa [ruleB] using this
      ·
       rw [hre2.1, rankOf_len]
       omega
     | false =>
      have hre2 : r = [] ∧ e = 2 := by
       unfold rankF at hre
       rw [hcd, if_neg (by decide), if_neg (by omega), if_neg (by rw [hb]; decide)] at hre
       cases hre
       exact ⟨rfl, rfl⟩
      refine Ev.step (f := fun k => kingpinlaw08_LeagueRanks.j4 k rules r e 2 a l) (fun k => rfl) ?_
      exact hj4 2 (fun h => absurd h (by decide)) (fun _ => ⟨hre2.2, hre2.1⟩)
   ·
    simp only [if_neg hc]
    have hre2 : r = [] ∧ e = c := by
     unfold rankF at hre
     rw [hcd, if_pos hc] at hre
     cases hre
     exact ⟨rfl, rfl⟩
    refine Ev.step (f := fun k => kingpinlaw08_LeagueRanks.j2 k rules r e c a l) (fun k => rfl) ?_
    refine Ev.step (f := fun k => kingpinlaw08_LeagueRanks.j3 k rules r e c false a l) (fun k => ?_) ?_
    ·
     simp only [kingpinlaw08_LeagueRanks.j2]
     rw [if_neg hc]
    refine Ev.step (f := fun k => kingpinlaw08_LeagueRanks.j4 k rules r e c a l) (fun k => rfl) ?_
    exact hj4 c (fun h => absurd h hc) (fun _ => ⟨hre2.2, hre2.1⟩)
 ·
  simp only [if_neg ht]
  exact haw true
end Go.Proofs.Ytmnamkcjldaoeaa.PAll
