/- Parts of the proof of leagueOrder_holds, in order: HRow -/
import Derived.Test.YtmnamkcjldaoeaaKOrder3
import Derived.Test.YtmnamkcjldaoeaaRows
import Derived.WalkKit
import Derived.ProofKit
import Derived.OpenShut
import Derived.ShutString
import Derived.ChangeOld
import Derived.Below
import Derived.SizedLaws
import Derived.Lib.SmallJoins
namespace Go.Proofs.Ytmnamkcjldaoeaa.PAll
open Go.ChangeShapes Go.WideShapes Go.ChangeAt
open Go.Deep (open_slice choose_lt)
open Go.Joins (open_agg2)
set_option maxRecDepth 100000
open Go.RowKit Go.Proofs.YtmnamkcjldaoeaaW.PrintWords Go.Proofs.YtmnamkcjldaoeaaW.PrintLast Go.Proofs.YtmnamkcjldaoeaaW.PrintMore
set_option linter.unusedVariables false
set_option linter.unusedSimpArgs false
section
variable {H : Type} {enc : TypeId × Value → H} {w : World} {spare : Nat → Bool} {held : Bool}
theorem list5 {α : Type} {cs : List α} (h : cs.length = 5) : ∃ c0 c1 c2 c3 c4, cs = [c0, c1, c2, c3, c4] := by
 match cs, h with
 | [c0, c1, c2, c3, c4], _ => exact ⟨c0, c1, c2, c3, c4, rfl⟩
def fits70 (x : S70) : Prop := (Lit.int .i64 x.f0).wf = true ∧ (Lit.int .i64 x.f1).wf = true ∧ (Lit.int .i64 x.f2).wf = true ∧ (Lit.int .i64 x.f3).wf = true
theorem open70 {n : Nat} {cs : List Value} {y : DataW H × List MemPlace} (h : DataW.trod enc Try.prog w 0 spare held n 70 cs = some y) : ∃ x : S70, k70.K w x cs ∧ fits70 x := by
 obtain ⟨xs, m, _, rfl, hl, hlen, hf⟩ := DataW.trod_struct Try.underlying70 h
 obtain ⟨c0, c1, c2, c3, c4, rfl⟩ := list5 (hl.trans (by kernel_rfl))
 have k3 : Try.prog.cellsOf 3 = 1 := by kernel_rfl
 have k4 : Try.prog.cellsOf 4 = 1 := by kernel_rfl
 have h5 : xs.length = 5 := hlen
 obtain ⟨y0, y1, y2, y3, y4, rfl⟩ := list5 h5
 have h0 : DataW.trod enc Try.prog w 0 spare held m 3 [c0] = some y0 := by simpa [k3, k4] using hf 0 _ rfl
 have h1 : DataW.trod enc Try.prog w 0 spare held m 3 [c1] = some y1 := by simpa [k3, k4] using hf 1 _ rfl
 have h2 : DataW.trod enc Try.prog w 0 spare held m 3 [c2] = some y2 := by simpa [k3, k4] using hf 2 _ rfl
 have h3 : DataW.trod enc Try.prog w 0 spare held m 3 [c3] = some y3 := by simpa [k3, k4] using hf 3 _ rfl
 have h4 : DataW.trod enc Try.prog w 0 spare held m 4 [c4] = some y4 := by simpa [k3, k4] using hf 4 _ rfl
 obtain ⟨n0, e0, _, w0⟩ := DataW.trod_int Try.underlying3 h0
 obtain ⟨n1, e1, _, w1⟩ := DataW.trod_int Try.underlying3 h1
 obtain ⟨n2, e2, _, w2⟩ := DataW.trod_int Try.underlying3 h2
 obtain ⟨n3, e3, _, w3⟩ := DataW.trod_int Try.underlying3 h3
 obtain ⟨b4, e4, _⟩ := DataW.trod_bool Try.underlying4 h4
 simp at e0 e1 e2 e3 e4
 subst e0 e1 e2 e3 e4
 exact ⟨⟨n0, n1, n2, n3, b4⟩, k70_mk w _, w0, w1, w2, w3⟩
theorem open_row {α : Type} [Inhabited α] (d : Kd α) (Q : α → Prop) {t e : TypeId} {n : Nat} {v : Value} {y : DataW H × List MemPlace} (ht : Try.prog.underlying t = some (.slice e)) (hs : Try.prog.cellsOf e = d.sz)
  (hop : ∀ (n : Nat) (cs : List Value) (y : DataW H × List MemPlace), DataW.trod enc Try.prog w 0 spare held n e cs = some y → ∃ x, d.K w x cs ∧ Q x)
  (h : DataW.trod enc Try.prog w 0 spare held n t [v] = some y) : ∃ (A : Option Addr) (c : Nat) (xs : List α), v = .slice A xs.length c ∧ xs.length ≤ c ∧ xs.length ≤ maxLen ∧ d.C w A xs.length xs ∧ ∀ x ∈ xs, Q x := by
 rcases open_slice ht h with ⟨hc, _⟩ | ⟨a, len, cap, m, k, D, Pl, hc, _, hle, hmax, hm, _, hx⟩
 ·
  simp at hc
  subst hc
  exact ⟨none, 0, [], rfl, Nat.le_refl _, Nat.zero_le _, ⟨rfl, Nat.zero_le _, fun h => absurd h (by simp)⟩, by simp⟩
 ·
  simp at hc
  subst hc
  have hlm : len ≤ m := by rw [hm]; split <;> omega
  obtain ⟨f, hf⟩ := choose_lt (n := len) (p := fun i (x : α) => ∃ cs, d.K w x cs ∧ Q x ∧ cs.length = d.sz ∧ ∀ j, j < d.sz → w.cell? ((a.add (i * d.sz)).add j) = cs[j]?) (fun i hi => by
   obtain ⟨cs, h1, h2⟩ := hx i (by omega)
   obtain ⟨x, hK, hQ⟩ := hop _ _ _ h2
   obtain ⟨_, hlen, hcell⟩ := World.cells?_some h1
   rw [hs] at hlen hcell
   exact ⟨x, cs, hK, hQ, hlen, hcell⟩)
  have hl : ((List.range len).map f).length = len := by simp
  refine ⟨some a, cap, (List.range len).map f, by rw [hl], by rw [hl]; exact hle, by rw [hl]; omega, ⟨rfl, ?_, fun _ => ⟨a, rfl, fun j p hj => ?_⟩⟩, ?_⟩
  ·
   rw [hl]
   have : maxLen ≤ 9223372036854775807 := by decide
   omega
  ·
   obtain ⟨hj1, hj2⟩ := List.getElem?_eq_some_iff.1 hj
   rw [hl] at hj1
   obtain ⟨cs, g1, _, g2, g3⟩ := hf j hj1
   have hp : p = f j := by rw [← hj2]; simp
   subst hp
   refine ⟨cs, g2, g1, fun i u hu => ?_⟩
   obtain ⟨hi1, _⟩ := List.getElem?_eq_some_iff.1 hu
   have := g3 i (by omega)
   rw [hu] at this
   rw [← this]
   rw [add_add]
  ·
   intro x hx
   obtain ⟨j, hj, rfl⟩ := List.mem_map.1 hx
   obtain ⟨cs, _, q, _⟩ := hf j (List.mem_range.1 hj)
   exact q
theorem open_int3 {k : IntKind} {t n : Nat} {cs : List Value} {y : DataW H × List MemPlace} (ht : Try.prog.underlying t = some (.int k)) (h : DataW.trod enc Try.prog w 0 spare held n t cs = some y) : ∃ x, (Kd.int k).K w x cs ∧ (Lit.int k x).wf = true := by
 obtain ⟨m, e, _, hw⟩ := DataW.trod_int ht h
 exact ⟨m, e, hw⟩
theorem open_league {base : Nat} {v : Value} {d : DataW H} {p : List MemPlace} (hv : Value.okWide Try.prog w .any base 24 v) (h : DataW.Trod enc Try.prog w 0 spare held 24 v d p) :
  ∃ (a : Int) (A : Option Addr) (c : Nat) (l : List S70), v = .agg #[.int .i64 a, .slice A l.length c] ∧ l.length ≤ c ∧ Kd.C k70 w A l.length l ∧ (Lit.int .i64 a).wf = true ∧ ∀ x ∈ l, fits70 x := by
 obtain ⟨v0, v1, y0, y1, n, rfl, _, _, h0, h1⟩ := open_agg2 Try.underlying24 (by kernel_rfl) (by kernel_rfl) hv h
 obtain ⟨m, e, _, hw⟩ := DataW.trod_int Try.underlying3 h0
 simp at e
 subst e
 letI : Inhabited S70 := ⟨z70⟩
 obtain ⟨A, c, l, rfl, hc, _, hC, hQ⟩ := open_row k70 fits70 (t := 22) (e := 70) (by kernel_rfl) (by kernel_rfl) (fun n cs y h => open70 h) h1
 exact ⟨m, A, c, l, rfl, hc, hC, hw, hQ⟩
theorem open_list {k : IntKind} {t e : TypeId} {v : Value} {d : DataW H} {p : List MemPlace} {base : Nat} (ht : Try.prog.underlying t = some (.slice e)) (he : Try.prog.underlying e = some (.int k)) (hc : Try.prog.cellsOf e = 1) (hv : Value.okWide Try.prog w .any base t v)
  (h : DataW.Trod enc Try.prog w 0 spare held t v d p) : ∃ (A : Option Addr) (c : Nat) (l : List Int), v = .slice A l.length c ∧ l.length ≤ c ∧ Kd.C (Kd.int k) w A l.length l ∧ ∀ x ∈ l, (Lit.int k x).wf = true := by
 obtain ⟨a, len, cap, rfl⟩ := okWide_slice ht hv
 obtain ⟨n, hn⟩ := h
 have hn : DataW.trod enc Try.prog w 0 spare held n t [.slice a len cap] = some (d, p) := hn
 obtain ⟨A, c, l, h1, hc, _, hC, hQ⟩ := open_row (Kd.int k) (fun x => (Lit.int k x).wf = true) ht hc (fun n cs y h => open_int3 he h) hn
 exact ⟨A, c, l, h1, hc, hC, hQ⟩
theorem list3 {α : Type} {cs : List α} (h : cs.length = 3) : ∃ c0 c1 c2, cs = [c0, c1, c2] := by
 match cs, h with
 | [c0, c1, c2], _ => exact ⟨c0, c1, c2, rfl⟩
theorem open114 {n : Nat} {cs : List Value} {y : DataW H × List MemPlace} (h : DataW.trod enc Try.prog w 0 spare held n 114 cs = some y) : ∃ x : S114, k114.K w x cs ∧ True := by
 obtain ⟨xs, m, _, rfl, hl, hlen, hf⟩ := DataW.trod_struct Try.underlying114 h
 obtain ⟨c0, c1, c2, rfl⟩ := list3 (hl.trans (by kernel_rfl))
 have k3 : Try.prog.cellsOf 3 = 1 := by kernel_rfl
 have h3 : xs.length = 3 := hlen
 obtain ⟨y0, y1, y2, rfl⟩ := list3 h3
 have h0 : DataW.trod enc Try.prog w 0 spare held m 3 [c0] = some y0 := by simpa [k3] using hf 0 _ rfl
 have h1 : DataW.trod enc Try.prog w 0 spare held m 3 [c1] = some y1 := by simpa [k3] using hf 1 _ rfl
 have h2 : DataW.trod enc Try.prog w 0 spare held m 3 [c2] = some y2 := by simpa [k3] using hf 2 _ rfl
 obtain ⟨n0, e0, _, w0⟩ := DataW.trod_int Try.underlying3 h0
 obtain ⟨n1, e1, _, w1⟩ := DataW.trod_int Try.underlying3 h1
 obtain ⟨n2, e2, _, w2⟩ := DataW.trod_int Try.underlying3 h2
 simp at e0 e1 e2
 subst e0 e1 e2
 exact ⟨⟨n0, n1, n2⟩, k114_mk w _, trivial⟩
theorem open_round {t n : Nat} {cs : List Value} {y : DataW H × List MemPlace} (ht : Try.prog.underlying t = some (.slice 114)) (hc : cs.length = 1) (h : DataW.trod enc Try.prog w 0 spare held n t cs = some y) : ∃ x : List S114, (Kd.slice 114 k114).K w x cs ∧ True := by
 match cs, hc with
 | [c], _ =>
  letI : Inhabited S114 := ⟨z114⟩
  obtain ⟨A, c, l, rfl, hc, _, hC, _⟩ := open_row k114 (fun _ => True) (t := t) (e := 114) ht (by kernel_rfl) (fun n cs y h => open114 h) h
  exact ⟨l, ⟨A, c, rfl, hc, hC⟩, trivial⟩
theorem open_sched {t e : TypeId} {v : Value} {d : DataW H} {p : List MemPlace} {base : Nat} (ht : Try.prog.underlying t = some (.slice e)) (he : Try.prog.underlying e = some (.slice 114)) (hc : Try.prog.cellsOf e = 1) (hv : Value.okWide Try.prog w .any base t v)
  (h : DataW.Trod enc Try.prog w 0 spare held t v d p) : ∃ (A : Option Addr) (c : Nat) (l : List (List S114)), v = .slice A l.length c ∧ l.length ≤ c ∧ Kd.C (Kd.slice 114 k114) w A l.length l := by
 obtain ⟨a, len, cap, rfl⟩ := okWide_slice ht hv
 obtain ⟨n, hn⟩ := h
 have hn : DataW.trod enc Try.prog w 0 spare held n t [.slice a len cap] = some (d, p) := hn
 obtain ⟨A, c, l, h1, hc, _, hC, _⟩ := open_row (Kd.slice 114 k114) (fun _ => True) ht hc (fun n cs y h => by
  refine open_round he ?_ h
  rcases open_slice he h with ⟨hc, _⟩ | ⟨a, len, cap, m, k, D, Pl, hc, _⟩
  ·
   rw [hc]; rfl
  ·
   rw [hc]; rfl) hn
 exact ⟨A, c, l, h1, hc, hC⟩
theorem wf_u8 {x : Int} (h : (Lit.int .u8 x).wf = true) : 0 ≤ x ∧ x ≤ 255 := by
 simp only [Lit.wf, Bool.and_eq_true, decide_eq_true_eq] at h
 exact h
end
end Go.Proofs.Ytmnamkcjldaoeaa.PAll
