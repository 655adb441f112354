/- Parts of the proof of leagueOrder_holds, in order: HMap -/
import Derived.Test.YtmnamkcjldaoeaaKOrder12
import Derived.MapKept
import Derived.DeepKeys3
namespace Go.Proofs.Ytmnamkcjldaoeaa.PAll
open Go.RowKit Go.Proofs.YtmnamkcjldaoeaaW.PrintWords Go.Proofs.YtmnamkcjldaoeaaW.PrintLast Go.Proofs.YtmnamkcjldaoeaaW.PrintMore
set_option linter.unusedVariables false
set_option linter.unusedSimpArgs false
abbrev pairV (p : Int × Int) : Value := .agg #[.int .i64 p.1, .int .i64 p.2]
theorem eq_pair (p q : Int × Int) (W : World) : (Op.equal 140 (pairV p) (pairV q)).run Try.prog W = .ok (p.1 == q.1 && p.2 == q.2) W := by
 show (Op.equalIn 10000 140 (pairV p) (pairV q)).run Try.prog W = _
 have hu := Try.underlying140
 unfold pairV
 go_simp
 by_cases h1 : p.1 = q.1
 ·
  by_cases h2 : p.2 = q.2 <;> simp [h1, h2]
 ·
  simp [h1]
def mapOf (ps : List (Int × Int)) : List MapEntry := ps.zipIdx.map fun (p, i) => { key := pairV p, val := .bool true, born := i }
def MapAt (w : World) (b : Nat) (ps : List (Int × Int)) : Prop := w.heap[b]? = some (.map (mapOf ps).toArray ps.length)
theorem MapAt.below {w w1 : World} {b : Nat} {ps : List (Int × Int)} (h : MapAt w b ps) (hb : Below w.heap.size w w1) : MapAt w1 b ps := blk_below h hb
theorem mapOf_snoc (ps : List (Int × Int)) (p : Int × Int) : mapOf (ps ++ [p]) = mapOf ps ++ [{ key := pairV p, val := .bool true, born := ps.length }] := by
 simp [mapOf, List.zipIdx_append]
theorem find_pair (p : Int × Int) (W : World) (es : List MapEntry) (ps : List (Int × Int)) (he : es.map (fun e => (e.key, e.val)) = ps.map fun q => (pairV q, Value.bool true)) : ∀ i,
  ∃ r : Option (Nat × Value), (Instr.findAsking 140 (pairV p) es i).run Try.prog W = .ok r W ∧ (ps.contains p = true → ∃ j, r = some (j, .bool true)) ∧ (ps.contains p = false → r = none) := by
 induction es generalizing ps with
 | nil =>
  intro i
  cases ps with
  | nil => exact ⟨none, rfl, fun h => by simp at h, fun _ => rfl⟩
  | cons q qs => simp at he
 | cons e es ih =>
  intro i
  cases ps with
  | nil => simp at he
  | cons q qs =>
   simp only [List.map_cons, List.cons.injEq, Prod.mk.injEq] at he
   obtain ⟨⟨h1, h2⟩, h3⟩ := he
   obtain ⟨r, h4, h5, h6⟩ := ih qs h3 (i + 1)
   by_cases hpq : p = q
   ·
    subst hpq
    refine ⟨some (i, .bool true), ?_, fun _ => ⟨i, rfl⟩, fun h => by simp at h⟩
    unfold Instr.findAsking
    rw [h1]
    simp only [Sem.run_bind, eq_pair, Result.andThen_ok, beq_self_eq_true, Bool.and_self, if_true, Sem.run_pure, h2]
   ·
    have hne : (p.1 == q.1 && p.2 == q.2) = false := by
     rw [Bool.and_eq_false_iff, beq_eq_false_iff_ne, beq_eq_false_iff_ne]
     by_cases h7 : p.1 = q.1
     ·
      exact .inr fun h8 => hpq (Prod.ext h7 h8)
     ·
      exact .inl h7
    have hb : (p == q) = false := beq_eq_false_iff_ne.2 hpq
    refine ⟨r, ?_, fun h => h5 (by simpa [hpq] using h), fun h => h6 (by simpa [hpq] using h)⟩
    unfold Instr.findAsking
    rw [h1]
    simp only [Sem.run_bind, eq_pair, Result.andThen_ok, hne, Bool.false_eq_true, if_false, h4]
theorem mapOf_keys (ps : List (Int × Int)) : (mapOf ps).map (fun e => (e.key, e.val)) = ps.map fun q => (pairV q, Value.bool true) := by
 unfold mapOf
 rw [List.map_map]
 apply List.ext_getElem
 ·
  simp
 ·
  intro i h1 h2
  simp
theorem findKey_pair (p : Int × Int) (W : World) (ps : List (Int × Int)) : ∃ r : Option (Nat × Value), (Instr.findKey 140 (pairV p) (mapOf ps)).run Try.prog W = .ok r W ∧ (ps.contains p = true → ∃ j, r = some (j, .bool true)) ∧ (ps.contains p = false → r = none) := by
 cases ps with
 | nil =>
  refine ⟨none, ?_, fun h => by simp at h, fun _ => rfl⟩
  unfold Instr.findKey
  simp [run_underlying Try.underlying140, mapOf, Instr.findNow]
 | cons q qs =>
  obtain ⟨r, h4, h5, h6⟩ := find_pair p W (mapOf (q :: qs)) (q :: qs) (mapOf_keys _) 0
  refine ⟨r, ?_, h5, h6⟩
  unfold Instr.findKey
  have hfn : ∀ fs, Instr.findNow (.struct fs) (pairV p) (mapOf (q :: qs)) 0 = none := by
   intro fs
   simp [mapOf, List.zipIdx_cons, Instr.findNow, Instr.sameNow]
  simp only [Sem.run_bind, run_underlying Try.underlying140, Result.andThen_ok, hfn]
  exact h4
theorem check_pair (em : Bool) (p : Int × Int) (W : World) : (Instr.checkKey em 10000 140 (pairV p)).run Try.prog W = .ok () W := by
 have hu := Try.underlying140
 unfold Instr.checkKey
 simp only [Sem.run_bind, run_underlying hu, Result.andThen_ok]
 rw [← Array.forIn_toList]
 have h3 : ∀ x : Int, (Instr.checkKey em 9999 3 (.int .i64 x)).run Try.prog W = .ok () W := fun x => by
  unfold Instr.checkKey
  simp [run_underlying Try.underlying3]
 go_simp
theorem lookup_pair {W : World} {b : Nat} {ps : List (Int × Int)} (h : MapAt W b ps) (p : Int × Int) : (Instr.lookup 136 (.map (some b)) (pairV p) false).run Try.prog W = .ok (.bool (ps.contains p)) W := by
 obtain ⟨r, h1, h2, h3⟩ := findKey_pair p W ps
 have hg : (getObj b).run Try.prog W = .ok (.map (mapOf ps).toArray ps.length) W := by
  unfold MapAt at h
  exact Go.MapKept.run_getObj_map h
 unfold Instr.lookup
 simp only [Sem.run_bind, run_underlying Try.underlying136, Result.andThen_ok, hg, Sem.run_pure, check_pair, h1]
 cases hc : ps.contains p
 ·
  rw [h3 hc]
  go_simp
 ·
  obtain ⟨j, rfl⟩ := h2 hc
  rfl
theorem update_pair {W : World} {b : Nat} {ps : List (Int × Int)} (h : MapAt W b ps) (p : Int × Int) (hc : ps.contains p = false) : ∃ W1, (Instr.mapUpdate 136 (.map (some b)) (pairV p) (.bool true)).run Try.prog W = .ok () W1 ∧ MapAt W1 b (ps ++ [p]) ∧ W.grownBy W1 (some b) := by
 obtain ⟨r, h1, h2, h3⟩ := findKey_pair p W ps
 have hg : (getObj b).run Try.prog W = .ok (.map (mapOf ps).toArray ps.length) W := Go.MapKept.run_getObj_map h
 have hs := fun o => Go.MapKept.run_setObj_map (P := Try.prog) (w := W) o h
 obtain rfl := h3 hc
 have hlt : b < W.heap.size := blk_lt h
 refine ⟨{ W with heap := W.heap.setIfInBounds b (.map (mapOf (ps ++ [p])).toArray (ps.length + 1)) }, ?_, ?_, ⟨rfl, rfl, rfl, by simp, fun k hk hne => ?_⟩⟩
 ·
  unfold Instr.mapUpdate
  simp only [Sem.run_bind, run_underlying Try.underlying136, Result.andThen_ok, hg, Sem.run_pure, check_pair, h1, hs]
  rw [mapOf_snoc]
  simp
 ·
  unfold MapAt
  simp [hlt]
 ·
  have hne2 : b ≠ k := fun e => hne (by rw [e])
  simp [hne2]
end Go.Proofs.Ytmnamkcjldaoeaa.PAll
