/- Parts of the proof of leagueOrder_holds, in order: HNumber -/
import Derived.Test.YtmnamkcjldaoeaaKOrder9
import Derived.Laws.ResultCell
namespace Go.Proofs.Ytmnamkcjldaoeaa.PAll
open Go.RowKit Go.Shelf Go.Proofs.YtmnamkcjldaoeaaW.PrintWords Go.Proofs.YtmnamkcjldaoeaaW.PrintLast Go.Proofs.YtmnamkcjldaoeaaW.PrintMore
set_option linter.unusedVariables false
set_option linter.unusedSimpArgs false
attribute [local go_sem] Oper.semAt_some
def ruleVal (f : Nat) (x : SideT) (group : List Int) : Int :=
 if f = 88 then x.points else if f = 89 then wrap64 (Int.tdiv x.points 2) else if f = 90 then (if group.contains x.other then x.points else 0) else x.pins
def numF (f : Nat) (l : List (S85 × SideT)) (group : List Int) : Int := l.foldl (fun s p => wrap64 (s + ruleVal f p.2 group)) 0
theorem numF_snoc (f : Nat) (l : List (S85 × SideT)) (p : S85 × SideT) (group : List Int) : numF f (l ++ [p]) group = wrap64 (numF f l group + ruleVal f p.2 group) := by
 unfold numF
 rw [List.foldl_append]; rfl
theorem index_eq (g : List Int) (v : Int) (hg : g.length ≤ 9223372036854775807) : ∀ (d i k : Nat), g.length - i = d → i ≤ g.length → d < k →
  ∃ r, slices_Index_int_int.l0 k g v (g.length : Int) (i : Int) = some r ∧ decide (r ≥ 0) = (g.drop i).contains v := by
 intro d
 induction d with
 | zero =>
  intro i k hd hi hk
  obtain ⟨k, rfl⟩ : ∃ m, k = m + 1 := ⟨k - 1, by omega⟩
  refine ⟨-1, ?_, ?_⟩
  ·
   simp only [slices_Index_int_int.l0]; rw [if_neg (by omega)]
  ·
   rw [List.drop_eq_nil_of_le (by omega)]; rfl
 | succ d ih =>
  intro i k hd hi hk
  obtain ⟨k, rfl⟩ : ∃ m, k = m + 1 := ⟨k - 1, by omega⟩
  have hlt : i < g.length := by omega
  have hrd : rd g (i : Int) = g[i] := by simp [rd, hlt]
  simp only [slices_Index_int_int.l0]
  rw [if_pos (by omega), if_pos (by omega), if_pos (by omega), List.drop_eq_getElem_cons hlt, List.contains_cons, hrd]
  by_cases hv : v = g[i]
  ·
   rw [if_pos hv]
   exact ⟨_, rfl, by rw [hv]; simp⟩
  ·
   rw [if_neg hv, show wrap64 ((i : Int) + 1) = ((i + 1 : Nat) : Int) by unfold wrap64; omega]
   obtain ⟨r, h1, h2⟩ := ih (i + 1) k (by omega) (by omega) (by omega)
   refine ⟨r, h1, ?_⟩
   rw [h2, beq_eq_false_iff_ne.2 hv, Bool.false_or]
theorem contains_eq (g : List Int) (v : Int) (hg : g.length ≤ 9223372036854775807) : ∃ k, slices_Contains_int_int.f k g v = some (g.contains v) := by
 obtain ⟨r, h1, h2⟩ := index_eq g v hg g.length 0 (g.length + 1) (by omega) (by omega) (by omega)
 refine ⟨g.length + 1, ?_⟩
 unfold slices_Contains_int_int.f slices_Index_int_int.f
 simp only [Int.natCast_zero] at h1
 rw [h1]
 simp only [Option.bind_some]
 rw [h2, List.drop_zero]
theorem side88 (x : SideT) (A1 : Option Addr) (c1 : Nat) (l1 : List Int) (w : World) (hr1 : Kd.C (Kd.int .i64) w A1 l1.length l1) (hc1 : l1.length ≤ c1) :
  Calls Try.prog 88 #[.agg #[.int .i64 x.other, .int .i64 x.points, .int .i64 x.pins], .slice A1 l1.length c1] w fun e w' => e = .returned (.int .i64 (ruleVal 88 x l1)) ∧ Below w.heap.size w w' :=
 league_side_all.calls _ _ _ _ _ _ _ _ hr1 hc1 rfl
theorem side89 (x : SideT) (A1 : Option Addr) (c1 : Nat) (l1 : List Int) (w : World) (hr1 : Kd.C (Kd.int .i64) w A1 l1.length l1) (hc1 : l1.length ≤ c1) :
  Calls Try.prog 89 #[.agg #[.int .i64 x.other, .int .i64 x.points, .int .i64 x.pins], .slice A1 l1.length c1] w fun e w' => e = .returned (.int .i64 (ruleVal 89 x l1)) ∧ Below w.heap.size w w' :=
 league_side_won.calls _ _ _ _ _ _ _ _ hr1 hc1 rfl
theorem side91 (x : SideT) (A1 : Option Addr) (c1 : Nat) (l1 : List Int) (w : World) (hr1 : Kd.C (Kd.int .i64) w A1 l1.length l1) (hc1 : l1.length ≤ c1) :
  Calls Try.prog 91 #[.agg #[.int .i64 x.other, .int .i64 x.points, .int .i64 x.pins], .slice A1 l1.length c1] w fun e w' => e = .returned (.int .i64 (ruleVal 91 x l1)) ∧ Below w.heap.size w w' :=
 league_side_felled.calls _ _ _ _ _ _ _ _ hr1 hc1 rfl
theorem side90 (x : SideT) (A1 : Option Addr) (c1 : Nat) (l1 : List Int) (w : World) (hr1 : Kd.C (Kd.int .i64) w A1 l1.length l1) (hc1 : l1.length ≤ c1) :
  Calls Try.prog 90 #[.agg #[.int .i64 x.other, .int .i64 x.points, .int .i64 x.pins], .slice A1 l1.length c1] w fun e w' => e = .returned (.int .i64 (ruleVal 90 x l1)) ∧ Below w.heap.size w w' := by
 obtain ⟨k, hk⟩ := contains_eq l1 x.other hr1.2.1
 refine league_side_direct.calls k _ _ _ _ _ _ _ _ hr1 hc1 ?_
 unfold league_side_direct.f ruleVal
 rw [hk]
 simp only [Option.bind_some, Nat.reduceEqDiff, if_false, if_true]
 cases l1.contains x.other <;> rfl
set_option maxRecDepth 100000 in
set_option maxHeartbeats 4000000 in
theorem number_any (f : Nat) (hent : ∀ args w, (callFunc f args).run Try.prog w = .ok (.enter f args) w) (a0 : Int) (A : Option Addr) (c : Nat) (gs : List S85) (t : Int) (Ag : Option Addr) (cg : Nat) (group : List Int) (w : World)
  (hr : Kd.C k85 w A gs.length gs) (hg : Kd.C (Kd.int .i64) w Ag group.length group) (hcg : group.length ≤ cg)
  (hside : ∀ (x : SideT) (W : World), Below w.heap.size w W → Calls Try.prog f #[.agg #[.int .i64 x.other, .int .i64 x.points, .int .i64 x.pins], .slice Ag group.length cg] W fun e w' => e = .returned (.int .i64 (ruleVal f x group)) ∧ Below W.heap.size W w') :
  Calls Try.prog 87 #[.agg #[.int .i64 a0, .slice A gs.length c], .agg #[.func (.func f) #[] #[]], .int .i64 t, .slice Ag group.length cg] w fun e w' => e = .returned (.int .i64 (numF f (sidesOf t gs) group)) ∧ Below w.heap.size w w' := by
 have HR := Aside0.mk hr
 have HG := Aside0.mk hg
 have HC := Aside0.mk hcg
 have HS := Lib.hid hside
 clear hr hg hcg hside
 refine (callsIn_wide (n := 4)).1 ?_
 refine callsIn_of_wp_marks Try.func87 rfl trivial ?_ rfl
 simp only [Try.ntmps87, List.size_toArray, List.length_cons, List.length_nil, Nat.reduceAdd, Nat.reduceSub, Array.replicate_succ, Array.replicate_zero, List.push_toArray, List.append_toArray, List.nil_append, List.cons_append]
 gi_wp2_with (refine ⟨trivial, ?_⟩; gi_at_call 109; refine (of_in _ _ _ _ _ _ _).mono ?_; rintro e w' ⟨rfl, rfl⟩)
 obtain ⟨W1, hW1⟩ : ∃ W1, w.alloc (.cells #[.int .i64 a0, .slice A gs.length c] 92) = W1 := ⟨_, rfl⟩
 have s1 : W1.heap.size = w.heap.size + 1 := by rw [← hW1]; simp
 have h1 : Below w.heap.size w W1 := by rw [← hW1]; exact below_alloc (Below.refl _ _) _
 rw [hW1]
 clear hW1
 have bR := Boxed.new W1 97 (.func (.func f) #[] #[])
 have bG := Boxed.new (W1.alloc (.cells #[.func (.func f) #[] #[]] 97)) 34 (.slice Ag group.length cg)
 have bN := Boxed.new ((W1.alloc (.cells #[.func (.func f) #[] #[]] 97)).alloc (.cells #[.slice Ag group.length cg] 34)) 3 (.int .i64 0)
 obtain ⟨W4, hW4⟩ : ∃ W4, ((W1.alloc (.cells #[.func (.func f) #[] #[]] 97)).alloc (.cells #[.slice Ag group.length cg] 34)).alloc (.cells #[.int .i64 0] 3) = W4 := ⟨_, rfl⟩
 have s4 : W4.heap.size = w.heap.size + 4 := by rw [← hW4]; simp [s1]
 have bR4 : Boxed W4 (w.heap.size + 1) 97 (.func (.func f) #[] #[]) := by rw [← hW4, ← s1]; exact (bR.alloc _).alloc _
 have bG4 : Boxed W4 (w.heap.size + 2) 34 (.slice Ag group.length cg) := by rw [← hW4]; have := bG.alloc (.cells #[.int .i64 0] 3); simpa [s1] using this
 have bN4 : Boxed W4 (w.heap.size + 3) 3 (.int .i64 0) := by rw [← hW4]; simpa [s1] using bN
 have h4 : Below w.heap.size w W4 := by rw [← hW4]; exact below_alloc (below_alloc (below_alloc h1 _) _) _
 rw [hW4]
 clear hW4 bR bG bN s1 h1
 have bT := Boxed.new (W4.alloc (.cells #[.int .i64 a0, .slice A gs.length c] 32)) 3 (.int .i64 t)
 have cL : ((W4.alloc (.cells #[.int .i64 a0, .slice A gs.length c] 32)).alloc (.cells #[.int .i64 t] 3)).cell? ⟨w.heap.size + 4, 1, none⟩ = some (.slice A gs.length c) := by
  rw [World.cell?_alloc_lt _ _ _ (by simp [s4]), ← s4]
  exact World.cell?_alloc_new _ _ _ _
 obtain ⟨W0, hW0⟩ : ∃ W0, (W4.alloc (.cells #[.int .i64 a0, .slice A gs.length c] 32)).alloc (.cells #[.int .i64 t] 3) = W0 := ⟨_, rfl⟩
 have s0 : W0.heap.size = w.heap.size + 6 := by rw [← hW0]; simp [s4]
 have bR0 : Boxed W0 (w.heap.size + 1) 97 (.func (.func f) #[] #[]) := by rw [← hW0]; exact (bR4.alloc _).alloc _
 have bG0 : Boxed W0 (w.heap.size + 2) 34 (.slice Ag group.length cg) := by rw [← hW0]; exact (bG4.alloc _).alloc _
 have bN0 : Boxed W0 (w.heap.size + 3) 3 (.int .i64 0) := by rw [← hW0]; exact (bN4.alloc _).alloc _
 have bT0 : Boxed W0 (w.heap.size + 5) 3 (.int .i64 t) := by rw [← hW0]; simpa [s4] using bT
 have h0 : Below w.heap.size w W0 := by rw [← hW0]; exact below_alloc (below_alloc h4 _) _
 simp only [Nat.add_assoc, Nat.reduceAdd]
 rw [hW0] at cL ⊢
 clear hW0 bR4 bG4 bN4 bT h4 s4
 refine wpIn_rangeFunc_ownH rfl (by omega) (gf := 113) (lb := #[.pointer (some ⟨w.heap.size + 4, 0, none⟩), .pointer (some ⟨w.heap.size + 5, 0, none⟩)]) rfl trivial (enters_of Try.func113 (by kernel_rfl) rfl)
  (of_stops 3 (by omega) (w.heap.size + 4) (w.heap.size + 5) (w.heap.size + 3) w.heap.size a0 A c gs t W0 (by omega) (by omega) (by omega) (by omega) cL bT0 (fun W' hW' => Kd.C_below HR.out (h0.trans hW')))
  KpC.trans (fun W l o o' hl h hc hw => KpC.put (by omega) W l o o' hl h hc hw) (Below.refl _ _) (fun _ => rfl)
  (fun pre W => (Boxed W (w.heap.size + 3) 3 (.int .i64 (numF f pre group)) ∧ (Boxed W (w.heap.size + 1) 97 (.func (.func f) #[] #[]) ∧ (Boxed W (w.heap.size + 2) 34 (.slice Ag group.length cg) ∧ Boxed W (w.heap.size + 5) 3 (.int .i64 t)))) ∧ Below w.heap.size w W)
  (fun _ _ _ => False)
  (OwnFrom.and (OwnFrom.and (Own.from (boxed_own _ _ _) _) (OwnFrom.and (Own.from (boxed_own _ _ (fun (_ : List (S85 × SideT)) => Value.func (.func f) #[] #[])) _) (OwnFrom.and (Own.from (boxed_own _ _ (fun (_ : List (S85 × SideT)) => Value.slice Ag group.length cg)) _) (Own.from (boxed_own _ _ (fun (_ : List (S85 × SideT)) => Value.int .i64 t)) _)))) (ownFrom_below (Nat.le_refl _) (by omega)))
  (fun _ _ _ _ _ hs _ _ => hs)
  ⟨⟨bN0, bR0, bG0, bT0⟩, h0⟩
  (fun x a' W => ∃ Bx, w.heap.size + 5 < Bx ∧ W.heap[Bx]? = some (.cells #[.int .i64 x.2.other, .int .i64 x.2.points, .int .i64 x.2.pins] 128 (0, 0)) ∧ a' = { tmps := #[.agg #[.int .i64 a0, .slice A gs.length c], .agg #[.func (.func f) #[] #[]], .int .i64 t, .slice Ag group.length cg, .pointer (some ⟨w.heap.size, 0, none⟩), .pointer (some ⟨w.heap.size + 1, 0, none⟩), undef, .pointer (some ⟨w.heap.size + 2, 0, none⟩), .pointer (some ⟨w.heap.size + 3, 0, none⟩), undef, .pointer (some ⟨Bx, 0, none⟩), .pointer (some ⟨w.heap.size, 0, none⟩), .agg #[.int .i64 a0, .slice A gs.length c], .int .i64 t, .func (.func 113) #[] #[.pointer (some ⟨w.heap.size + 4, 0, none⟩), .pointer (some ⟨w.heap.size + 5, 0, none⟩)], .agg #[.int .i64 x.1.f0, .int .i64 x.1.f1, .int .i64 x.1.f2, .int .i64 x.1.f3, .bool x.1.f4], .agg #[.int .i64 x.2.other, .int .i64 x.2.points, .int .i64 x.2.pins], undef, undef, undef, undef, undef, undef, undef, undef], defers := [] })
  (fun x a' _ X Y row hs hg hr => by obtain ⟨Bx, h1, h2, h3⟩ := hs; exact ⟨Bx, h1, (hg.block Bx (blk_lt h2) (fun e => by obtain ⟨_, o, ho, hc⟩ := hr Bx e.symm; rw [h2] at ho; cases ho; cases hc)).trans h2, h3⟩)
  ?assign ?body ?done ?stop
 case assign =>
  rintro l pre x W K ⟨⟨b1, b2, b3, b4⟩, hB1⟩ hK
  dsimp only [encSide]
  gi_wp2
  have hs := b4.lt
  exact hK _ _ ((KeepsOthers.alloc _ _).from _) (KpC.grow (below_alloc (Below.refl _ _) _) (by omega)) ⟨⟨b1.alloc _, b2.alloc _, b3.alloc _, b4.alloc _⟩, below_alloc hB1 _⟩ ⟨W.heap.size, b4.lt, blk_new _ _, rfl⟩
 case body =>
  rintro l pre x a' W hl ⟨r, hr⟩ ⟨⟨b1, b2, b3, b4⟩, hB1⟩ ⟨Bx, hBx, bX, rfl⟩ hlt
  have hmx : Try.prog.follows .mixedOrders = true := by kernel_rfl
  have c1 := b1.cell
  have f1 := b1.frozen
  have c2 := b2.cell
  have c3 := b3.cell
  have x0 : W.cell? ⟨Bx, 0, none⟩ = some (.int .i64 x.2.other) := blk_cell bX 0
  have x1 : W.cell? ⟨Bx, 1, none⟩ = some (.int .i64 x.2.points) := blk_cell bX 1
  have x2 : W.cell? ⟨Bx, 2, none⟩ = some (.int .i64 x.2.pins) := blk_cell bX 2
  gi_wp2
  trace "here"
  gi_region_with_o (refine ⟨trivial, ?_⟩; refine (CallsIn.inRound l (callsIn_wide.2 (HS.out x.2 _ ?hg))).mono ?_; (case hg => exact pw_below_drewN hB1 1); rintro e w' ⟨rfl, hb⟩; have c1' : w'.cell? ⟨w.heap.size + 3, 0, none⟩ = some (.int .i64 (numF f pre group)) := (hb.cell (by exact b1.lt)).trans c1; have f1' : w'.frozen? ⟨w.heap.size + 3, 0, none⟩ = false := (hb.frozen (by exact b1.lt)).trans f1)
  all_goals gi_wp2
  all_goals
   have hgw : Below W.heap.size W w' := ⟨hb.os, hb.tape, hb.output, hb.size, hb.block⟩
   have b1' : Boxed w' (w.heap.size + 3) 3 (.int .i64 (numF f pre group)) := (hgw.block _ b1.lt).trans b1
   have b2' : Boxed w' (w.heap.size + 1) 97 (.func (.func f) #[] #[]) := (hgw.block _ b2.lt).trans b2
   have b3' : Boxed w' (w.heap.size + 2) 34 (.slice Ag group.length cg) := (hgw.block _ b3.lt).trans b3
   have b4' : Boxed w' (w.heap.size + 5) 3 (.int .i64 t) := (hgw.block _ b4.lt).trans b4
   exact ⟨((KeepsOthers.of_grownBy (grown_of_below hgw none) (fun _ _ e => by cases e)).trans (KeepsOthers.setCell _ _ _)).from _, (KpC.grow hgw hB1.size).trans (KpC.set (by omega) _),
    ⟨⟨by rw [numF_snoc, ← IntWalk.i64_left]; exact b1'.set _, b2'.other (by omega) _, b3'.other (by omega) _, b4'.other (by omega) _⟩, (hB1.trans (hgw.mono hB1.size)).setCell (p := ⟨w.heap.size + 3, 0, none⟩) (by simp) _⟩⟩
 case done =>
  rintro D zs W hD rfl ⟨⟨b1, b2, b3, b4⟩, hB1⟩ hK
  have c1 := b1.cell
  have f1 := b1.frozen
  gi_wp2
  have hK' : (W.setCell ⟨w.heap.size + 3, 0, none⟩ (.int .i64 (numF f (sidesOf t gs) group))).heap[D]? = some (.deferred (some [])) := (Below.heap_setCell W ⟨w.heap.size + 3, 0, none⟩ _ D (by simp; omega)).trans hK
  refine ⟨by simp, .inl ⟨_, _, rfl, run_takeDeferred hK', ?_⟩⟩
  refine ⟨_, ?_, rfl, (hB1.setCell (p := ⟨w.heap.size + 3, 0, none⟩) (by simp) _).trans (belowK_b (w := w) (Nat.le_refl _) _ D _ _ (by omega) hK' rfl rfl)⟩
  have hc : ((W.setCell ⟨w.heap.size + 3, 0, none⟩ (.int .i64 (numF f (sidesOf t gs) group))).putObj D (.deferred none)).cell? ⟨w.heap.size + 3, 0, none⟩ = some (.int .i64 (numF f (sidesOf t gs) group)) :=
   (World.cell?_of_block (World.putObj_heap_other (by simp; omega))).trans (b1.set _).cell
  simp [results, Try.results87, go_sem, hc]
 case stop =>
  rintro D c pre W _ _ h _
  exact h.elim
theorem number_calls (f : Nat) (hf : f = 88 ∨ f = 89 ∨ f = 90 ∨ f = 91) (a0 : Int) (A : Option Addr) (c : Nat) (gs : List S85) (t : Int) (Ag : Option Addr) (cg : Nat) (group : List Int) (w : World)
  (hr : Kd.C k85 w A gs.length gs) (hg : Kd.C (Kd.int .i64) w Ag group.length group) (hcg : group.length ≤ cg) :
  Calls Try.prog 87 #[.agg #[.int .i64 a0, .slice A gs.length c], .agg #[.func (.func f) #[] #[]], .int .i64 t, .slice Ag group.length cg] w fun e w' => e = .returned (.int .i64 (numF f (sidesOf t gs) group)) ∧ Below w.heap.size w w' := by
 rcases hf with rfl | rfl | rfl | rfl
 ·
  exact number_any 88 (enters_of Try.func88 (by kernel_rfl) rfl) a0 A c gs t Ag cg group w hr hg hcg (fun x W hW => side88 x Ag cg group W (Kd.C_below hg hW) hcg)
 ·
  exact number_any 89 (enters_of Try.func89 (by kernel_rfl) rfl) a0 A c gs t Ag cg group w hr hg hcg (fun x W hW => side89 x Ag cg group W (Kd.C_below hg hW) hcg)
 ·
  exact number_any 90 (enters_of Try.func90 (by kernel_rfl) rfl) a0 A c gs t Ag cg group w hr hg hcg (fun x W hW => side90 x Ag cg group W (Kd.C_below hg hW) hcg)
 ·
  exact number_any 91 (enters_of Try.func91 (by kernel_rfl) rfl) a0 A c gs t Ag cg group w hr hg hcg (fun x W hW => side91 x Ag cg group W (Kd.C_below hg hW) hcg)
end Go.Proofs.Ytmnamkcjldaoeaa.PAll
