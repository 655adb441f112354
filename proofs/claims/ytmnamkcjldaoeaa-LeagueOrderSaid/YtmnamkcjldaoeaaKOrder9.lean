/- Parts of the proof of leagueOrder_holds, in order: HNum, HSums -/
import Derived.Test.YtmnamkcjldaoeaaKOrder3
import Derived.RangeFuncNested
import Derived.RangeFuncBound
import Derived.RangeFuncCalls
import Derived.RangeFuncLeaves
import Derived.Shelf.Abstract
import Derived.Shelf.RegionOpen
import Derived.OwnWalkIn
import Derived.TacticsInMore
import Derived.LoopNIn
import Derived.LoopIn
import Derived.Outline
import Derived.Lib.Hide
import Derived.Laws.Rows
namespace Go.Proofs.Ytmnamkcjldaoeaa.PAll
open Go.RowKit Go.Shelf Go.Proofs.YtmnamkcjldaoeaaW.PrintWords Go.Proofs.YtmnamkcjldaoeaaW.PrintLast Go.Proofs.YtmnamkcjldaoeaaW.PrintMore
set_option linter.unusedVariables false
set_option linter.unusedSimpArgs false
attribute [local go_sem] Oper.semAt_some
def givesF (g : S85) : Int × Int := if g.f4 = true then (0, 0) else if g.f2 > g.f3 then (2, 0) else if g.f2 < g.f3 then (0, 2) else (1, 1)
theorem gives_eq (g : S85) : league_Game_gives.f g.f0 g.f1 g.f2 g.f3 g.f4 = some (givesF g) := by
 unfold league_Game_gives.f givesF
 split
 ·
  rfl
 ·
  split
  ·
   rfl
  ·
   split <;> rfl
structure SideT where
 other : Int
 points : Int
 pins : Int
def sidesG (t : Int) (g : S85) : List (S85 × SideT) := (if g.f0 = t then [(g, ⟨g.f1, (givesF g).1, g.f2⟩)] else []) ++ (if g.f1 = t then [(g, ⟨g.f0, (givesF g).2, g.f3⟩)] else [])
def sidesOf (t : Int) (l : List S85) : List (S85 × SideT) := l.flatMap (sidesG t)
theorem sidesOf_succ (t : Int) (l : List S85) (k : Nat) (hk : k < l.length) : sidesOf t (l.take (k + 1)) = sidesOf t (l.take k) ++ sidesG t (l.getD k z85) := by
 unfold sidesOf
 rw [List.take_succ_eq_append_getElem hk, List.flatMap_append, List.getD_eq_getElem?_getD, List.getElem?_eq_getElem hk]
 simp only [List.flatMap_cons, List.flatMap_nil, List.append_nil, Option.getD_some]
theorem sidesOf_take_prefix (t : Int) (l : List S85) (k : Nat) : sidesOf t (l.take k) <+: sidesOf t l := by
 refine ⟨sidesOf t (l.drop k), ?_⟩
 unfold sidesOf
 rw [← List.flatMap_append, List.take_append_drop]
def encSide (x : S85 × SideT) : Array Value := #[.agg #[.int .i64 x.1.f0, .int .i64 x.1.f1, .int .i64 x.1.f2, .int .i64 x.1.f3, .bool x.1.f4], .agg #[.int .i64 x.2.other, .int .i64 x.2.points, .int .i64 x.2.pins]]
structure KpC (n₀ Bn : Nat) (W W' : World) : Prop where
 below : Below n₀ W W'
 cells : ∀ k o, k ≠ Bn → W.heap[k]? = some o → o.isCells = true → W'.heap[k]? = some o
theorem KpC.refl (n₀ Bn : Nat) (W : World) : KpC n₀ Bn W W := ⟨Below.refl _ _, fun _ _ _ h _ => h⟩
theorem KpC.trans {n₀ Bn : Nat} {A B C : World} (h : KpC n₀ Bn A B) (k : KpC n₀ Bn B C) : KpC n₀ Bn A C :=
 ⟨h.below.trans k.below, fun i o hi ho hc => k.cells i o hi (h.cells i o hi ho hc) hc⟩
theorem KpC.grow {n₀ Bn : Nat} {A B : World} (h : Below A.heap.size A B) (hn : n₀ ≤ A.heap.size) : KpC n₀ Bn A B :=
 ⟨h.mono hn, fun k o _ ho _ => (h.block k (Array.getElem?_eq_some_iff.1 ho).1).trans ho⟩
theorem KpC.put {n₀ Bn : Nat} {w : World} (hn : n₀ ≤ w.heap.size) (W : World) (l : Nat) (o o' : Obj) (hl : w.heap.size ≤ l) (h : W.heap[l]? = some o) (hc : o.isCells = false) (hw : o.isWalk = false) : KpC n₀ Bn W (W.putObj l o') :=
 ⟨belowK_b hn W l o o' hl h hc hw, fun k o2 _ ho hc2 => (World.putObj_heap_other (by rintro rfl; rw [h] at ho; injection ho with ho; rw [ho, hc2] at hc; cases hc)).trans ho⟩
theorem KpC.set {n₀ Bn : Nat} {W : World} (hn : n₀ ≤ Bn) (u : Value) : KpC n₀ Bn W (W.setCell ⟨Bn, 0, none⟩ u) :=
 ⟨(Below.refl n₀ W).setCell (p := ⟨Bn, 0, none⟩) hn _, fun k o hk ho _ => (Below.heap_setCell W ⟨Bn, 0, none⟩ u k hk).trans ho⟩
theorem KpC.drewN {n₀ Bn : Nat} {A B : World} (h : KpC n₀ Bn A B) (m : Nat) : KpC n₀ Bn A (B.drewN m) := ⟨pw_below_drewN h.below m, h.cells⟩
set_option maxRecDepth 100000 in
set_option maxHeartbeats 2000000 in
theorem of1_in (n : Nat) (hn : 1 ≤ n) (l Bl Bt Bn n₀ : Nat) (a0 : Int) (A : Option Addr) (c : Nat) (gs : List S85) (t : Int) (J Jx : List (S85 × SideT) → World → Prop)
  (hY : ∀ pre x W, J pre W → pre.length < (sidesOf t gs).length → YieldAt Fence.wide (n - 1) Try.prog l (encSide x) W fun e W' =>
   (e = .returned (.bool true) ∧ J (pre ++ [x]) W' ∧ KpC n₀ Bn W W') ∨ (e = .returned (.bool false) ∧ Jx (pre ++ [x]) W'))
  (W : World) (hJ : AbidesFrom W.heap.size J) (hBt : Bt ≠ Bn) (hBn : Bn < W.heap.size) (hn₀ : n₀ ≤ W.heap.size)
  (hcl1 : W.cell? ⟨Bl, 1, none⟩ = some (.slice A gs.length c)) (hct : W.heap[Bt]? = some (.cells #[.int .i64 t] 3 (0, 0)))
  (hg : ∀ W', Below n₀ W W' → Kd.C k85 W' A gs.length gs) (h0 : J [] W) :
  CallsIn Fence.wide n Try.prog 113 #[.func (.yield l) #[] #[], .pointer (some ⟨Bl, 0, none⟩), .pointer (some ⟨Bt, 0, none⟩)] W fun e W' => (∃ v, e = .returned v) ∧ ((∃ xs, xs = sidesOf t gs ∧ J xs W') ∨ (∃ pre, True ∧ Jx pre W')) := by
 have HG := Lib.hid hg
 have HY := Lib.hid hY
 have HJ := Lib.hid hJ
 clear hg hY hJ
 have hm : gs.length ≤ 9223372036854775807 := (HG.out W (Below.refl _ _)).2.1
 refine callsIn_of_wp Try.func113 rfl trivial ?_ rfl
 simp only [Try.ntmps113, List.size_toArray, List.length_cons, List.length_nil, Nat.reduceAdd, Nat.reduceSub, Array.replicate_succ, Array.replicate_zero, List.push_toArray, List.append_toArray, List.nil_append, List.cons_append]
 gi_wp2
 gi_loopw [11] (fun i wr => ∃ k : Nat, k ≤ gs.length ∧ i = .int .i64 k ∧ Aside0 (J (sidesOf t (gs.take k)) wr) ∧ Aside0 (KpC n₀ Bn W wr)) (fun i _ => gs.length - (intOf i).toNat)
 case atStart => exact ⟨0, Nat.zero_le _, rfl, ⟨by simpa [sidesOf] using h0⟩, ⟨KpC.refl _ _ _⟩⟩
 case round =>
  obtain ⟨k, hk, rfl, hJs, hb⟩ := hrel
  have hctH : Hid (wr.heap[Bt]? = some (.cells #[.int .i64 t] 3 (0, 0))) := hb.out.cells _ _ hBt hct rfl
  by_cases hlt : k < gs.length
  ·
   obtain ⟨ad, rfl, q0, q1, q2, q3, q4⟩ := at_T85 (HG.out wr hb.out.below) (k : Int) (by omega) (by omega)
   simp only [Int.toNat_natCast] at q0 q1 q2 q3 q4
   have hsz : W.heap.size ≤ wr.heap.size := hb.out.below.size
   have HS := Lib.hid (sidesOf_succ t gs k hlt)
   have HL : Hid ((sidesOf t (gs.take (k + 1))).length ≤ (sidesOf t gs).length) := (sidesOf_take_prefix t gs (k + 1)).length_le
   obtain ⟨x, hx⟩ : ∃ x, rd_T85 gs ↑k = x := ⟨_, rfl⟩
   have HX : Hid (gs.getD k z85 = x) := hx
   rw [hx] at q0 q1 q2 q3 q4
   clear hx
   obtain ⟨p1, p2, hp⟩ : ∃ p1 p2, givesF x = (p1, p2) := ⟨_, _, rfl⟩
   have HP := Lib.hid hp
   clear hp
   obtain ⟨B, hB⟩ : ∃ B, wr.heap.size = B := ⟨_, rfl⟩
   gi_wp2_with fail
   refine ⟨trivial, ?_⟩
   refine (callsIn_wide.2 (league_Game_gives.calls _ _ _ _ _ p1 p2 _ (by rw [gives_eq x, HP.out]))).mono ?_
   rintro e w1 ⟨rfl, hb1⟩
   subst hB
   have hbx : Hid (w1.heap[wr.heap.size]? = some (.cells #[.int .i64 x.f0, .int .i64 x.f1, .int .i64 x.f2, .int .i64 x.f3, .bool x.f4] 85 (0, 0))) := (hb1.block _ (by simp)).trans (blk_new _ _)
   have hgw : Below wr.heap.size wr w1 := below_then (below_alloc (Below.refl _ _) _) (by simp) hb1
   have hJ1 := Aside0.mk (HJ.out _ _ w1 none hJs.out (grown_of_below hgw none) (fun _ e => by cases e))
   have hk1 := Aside0.mk (hb.out.trans (KpC.grow (n₀ := n₀) (Bn := Bn) hgw (Nat.le_trans hn₀ hsz)))
   have ht1 : Hid (w1.heap[Bt]? = some (.cells #[.int .i64 t] 3 (0, 0))) := (hgw.block _ (blk_lt hctH.out)).trans hctH.out
   obtain ⟨B, hB⟩ : ∃ B, wr.heap.size = B := ⟨_, rfl⟩
   have hBB := Lib.hid (show B ≠ Bn by omega)
   rw [hB] at hbx ⊢
   clear hB hgw hb1 q0 q1 q2 q3 q4 hJs hctH
   have c0 : w1.cell? ⟨B, 0, none⟩ = some (.int .i64 x.f0) := blk_cell hbx.out 0
   have c1 : w1.cell? ⟨B, 1, none⟩ = some (.int .i64 x.f1) := blk_cell hbx.out 1
   have c2 : w1.cell? ⟨B, 2, none⟩ = some (.int .i64 x.f2) := blk_cell hbx.out 2
   have c3 : w1.cell? ⟨B, 3, none⟩ = some (.int .i64 x.f3) := blk_cell hbx.out 3
   have c4 : w1.cell? ⟨B, 4, none⟩ = some (.bool x.f4) := blk_cell hbx.out 4
   have ct : w1.cell? ⟨Bt, 0, none⟩ = some (.int .i64 t) := blk_cell ht1.out 0
   have HE : Hid (sidesOf t (gs.take (k + 1)) = sidesOf t (gs.take k) ++ sidesG t x) := by have := HS.out; rw [HX.out] at this; exact this
   by_cases e0 : x.f0 = t
   ·
    have e0b : (x.f0 == t) = true := beq_iff_eq.2 e0
    have hlen : (sidesOf t (gs.take k)).length < (sidesOf t gs).length := by
     have h2 := HL.out
     rw [HE.out] at h2
     simp only [List.length_append, sidesG, if_pos e0] at h2
     simp at h2
     omega
    obtain ⟨fn, tmps, assign, body, hy, hR⟩ := HY.out _ (x, ⟨x.f1, p1, x.f2⟩) w1 hJ1.out hlen
    dsimp only [encSide] at hy
    have E0 := Lib.hid e0
    have HL1 := Lib.hid hlen
    clear e0 hlen
    gi_wp2
    refine hR.mono ?_
    rintro e W3 (⟨rfl, hJ3, hk3⟩ | ⟨rfl, hx3⟩)
    rotate_left
    ·
     gi_wp2
     all_goals first
      | (exfalso; have hh := ‹some undef = some (Value.bool _)›; simp [undef] at hh; done)
      | (refine ⟨fun _ h => (by cases h), ?_⟩; gi_wp2; refine bodyPost_ret (results_none rfl _ _ _) rfl ?_; exact ⟨⟨_, rfl⟩, .inr ⟨_, trivial, hx3⟩⟩)
    have hbx3 : Hid (W3.heap[B]? = some (.cells #[.int .i64 x.f0, .int .i64 x.f1, .int .i64 x.f2, .int .i64 x.f3, .bool x.f4] 85 (0, 0))) := hk3.cells _ _ hBB.out hbx.out rfl
    have ht3 : Hid (W3.heap[Bt]? = some (.cells #[.int .i64 t] 3 (0, 0))) := hk3.cells _ _ hBt ht1.out rfl
    have HK3 := Aside0.mk (hk1.out.trans hk3)
    have HJ3 := Aside0.mk hJ3
    clear hJ3 hk3 hy hR c0 c1 c2 c3 c4 ct hbx ht1 hJ1 hk1
    have c0 : W3.cell? ⟨B, 0, none⟩ = some (.int .i64 x.f0) := blk_cell hbx3.out 0
    have c1 : W3.cell? ⟨B, 1, none⟩ = some (.int .i64 x.f1) := blk_cell hbx3.out 1
    have c2 : W3.cell? ⟨B, 2, none⟩ = some (.int .i64 x.f2) := blk_cell hbx3.out 2
    have c3 : W3.cell? ⟨B, 3, none⟩ = some (.int .i64 x.f3) := blk_cell hbx3.out 3
    have c4 : W3.cell? ⟨B, 4, none⟩ = some (.bool x.f4) := blk_cell hbx3.out 4
    have ct : W3.cell? ⟨Bt, 0, none⟩ = some (.int .i64 t) := blk_cell ht3.out 0
    by_cases e1 : x.f1 = t
    ·
     have e1b : (x.f1 == t) = true := beq_iff_eq.2 e1
     have hS : Hid (sidesG t x = [(x, ⟨x.f1, p1, x.f2⟩)] ++ [(x, ⟨x.f0, p2, x.f3⟩)]) := by
      show sidesG t x = _
      unfold sidesG
      rw [if_pos E0.out, if_pos e1, HP.out]
     have hlen : (sidesOf t (gs.take k) ++ [(x, (⟨x.f1, p1, x.f2⟩ : SideT))]).length < (sidesOf t gs).length := by
      have h2 := HL.out
      rw [HE.out, hS.out] at h2
      simp at h2 ⊢
      omega
     obtain ⟨fn, tmps, assign, body, hy, hR⟩ := HY.out _ (x, ⟨x.f0, p2, x.f3⟩) W3 HJ3.out hlen
     dsimp only [encSide] at hy
     clear e1 hlen
     gi_wp2
     refine hR.mono ?_
     rintro e W4 (⟨rfl, hJ4, hk4⟩ | ⟨rfl, hx4⟩)
     rotate_left
     ·
      gi_wp2
      refine bodyPost_ret (results_none rfl _ _ _) rfl ?_
      exact ⟨⟨_, rfl⟩, .inr ⟨_, trivial, hx4⟩⟩
     have HK4 := Aside0.mk (HK3.out.trans hk4)
     have HJ4 := Aside0.mk hJ4
     clear hJ4 hk4 hy hR c0 c1 c2 c3 c4 ct
     gi_wp2
     go_roundw
     case rel => exact ⟨k + 1, by omega, by simp, ⟨by rw [HE.out, hS.out, ← List.append_assoc]; exact HJ4.out⟩, HK4⟩
     case measure => simp [intOf]; omega
    ·
     have e1b : (x.f1 == t) = false := beq_eq_false_iff_ne.2 e1
     have hS : Hid (sidesG t x = [(x, ⟨x.f1, p1, x.f2⟩)]) := by
      show sidesG t x = _
      unfold sidesG
      rw [if_pos E0.out, if_neg e1, HP.out, List.append_nil]
     clear e1
     gi_wp2
     refine ⟨fun _ h => (by cases h), ?_⟩
     gi_wp2
     go_roundw
     case rel => exact ⟨k + 1, by omega, by simp, ⟨by rw [HE.out, hS.out]; exact HJ3.out⟩, HK3⟩
     case measure => simp [intOf]; omega
   ·
    have e0b : (x.f0 == t) = false := beq_eq_false_iff_ne.2 e0
    by_cases e1 : x.f1 = t
    ·
     have e1b : (x.f1 == t) = true := beq_iff_eq.2 e1
     have hS : Hid (sidesG t x = [(x, ⟨x.f0, p2, x.f3⟩)]) := by
      show sidesG t x = _
      unfold sidesG
      rw [if_neg e0, if_pos e1, HP.out, List.nil_append]
     have hlen : (sidesOf t (gs.take k)).length < (sidesOf t gs).length := by
      have h2 := HL.out
      rw [HE.out, hS.out] at h2
      simp at h2 ⊢
      omega
     obtain ⟨fn, tmps, assign, body, hy, hR⟩ := HY.out _ (x, ⟨x.f0, p2, x.f3⟩) w1 hJ1.out hlen
     dsimp only [encSide] at hy
     clear e1 hlen e0
     gi_wp2
     refine ⟨fun _ h => (by cases h), ?_⟩
     gi_wp2
     refine hR.mono ?_
     rintro e W4 (⟨rfl, hJ4, hk4⟩ | ⟨rfl, hx4⟩)
     rotate_left
     ·
      gi_wp2
      refine bodyPost_ret (results_none rfl _ _ _) rfl ?_
      exact ⟨⟨_, rfl⟩, .inr ⟨_, trivial, hx4⟩⟩
     have HK4 := Aside0.mk (hk1.out.trans hk4)
     have HJ4 := Aside0.mk hJ4
     clear hJ4 hk4 hy hR c0 c1 c2 c3 c4 ct
     gi_wp2
     go_roundw
     case rel => exact ⟨k + 1, by omega, by simp, ⟨by rw [HE.out, hS.out]; exact HJ4.out⟩, HK4⟩
     case measure => simp [intOf]; omega
    ·
     have e1b : (x.f1 == t) = false := beq_eq_false_iff_ne.2 e1
     have hS : Hid (sidesG t x = []) := by
      show sidesG t x = _
      unfold sidesG
      rw [if_neg e0, if_neg e1, List.nil_append]
     clear e1 e0
     gi_wp2
     refine ⟨fun _ h => (by cases h), ?_⟩
     gi_wp2
     go_roundw
     case rel => exact ⟨k + 1, by omega, by simp, ⟨by rw [HE.out, hS.out, List.append_nil]; exact hJ1.out⟩, hk1⟩
     case measure => simp [intOf]; omega
  ·
   obtain rfl : k = gs.length := by omega
   have HE : Hid (gs.take gs.length = gs) := List.take_length
   gi_wp2
   go_end0
   exact ⟨⟨_, rfl⟩, .inl ⟨_, rfl, by have := hJs.out; rw [HE.out] at this; exact this⟩⟩
theorem of_in (n : Nat) (a0 : Int) (A : Option Addr) (m c : Nat) (t : Int) (w : World) :
  CallsIn Fence.wide n Try.prog 109 #[.agg #[.int .i64 a0, .slice A m c], .int .i64 t] w fun e w' => e = .returned (.func (.func 113) #[] #[.pointer (some ⟨w.heap.size, 0, none⟩), .pointer (some ⟨w.heap.size + 1, 0, none⟩)]) ∧
   w' = (w.alloc (.cells #[.int .i64 a0, .slice A m c] 32)).alloc (.cells #[.int .i64 t] 3) := by
 refine callsIn_of_wp Try.func109 rfl trivial ?_ rfl
 simp only [Try.ntmps109, List.size_toArray, List.length_cons, List.length_nil, Nat.reduceAdd, Nat.reduceSub, Array.replicate_succ, Array.replicate_zero, List.push_toArray, List.append_toArray, List.nil_append, List.cons_append]
 gi_wp2
 go_ret
 exact ⟨rfl, rfl⟩
theorem of_stops (n : Nat) (hn : 1 ≤ n) (Bl Bt Bn n₀ : Nat) (a0 : Int) (A : Option Addr) (c : Nat) (gs : List S85) (t : Int) (w : World) (hBt : Bt ≠ Bn) (hBn : Bn < w.heap.size) (hn₀ : n₀ ≤ w.heap.size)
  (hBl : Bl < w.heap.size) (hcl1 : w.cell? ⟨Bl, 1, none⟩ = some (.slice A gs.length c)) (hct : w.heap[Bt]? = some (.cells #[.int .i64 t] 3 (0, 0)))
  (hg : ∀ W', Below n₀ w W' → Kd.C k85 W' A gs.length gs) :
  SeqStopsK Fence.wide n Try.prog 113 #[.pointer (some ⟨Bl, 0, none⟩), .pointer (some ⟨Bt, 0, none⟩)] encSide (KpC n₀ Bn) (fun ys => ys = sidesOf t gs) (fun _ => True) (sidesOf t gs).length w :=
 fun l J Jx W hW hJ _ hY h0 => of1_in n hn l Bl Bt Bn n₀ a0 A c gs t J Jx hY W hJ hBt (Nat.lt_of_lt_of_le hBn hW.size) (Nat.le_trans hn₀ hW.size)
  ((hW.cell (p := ⟨Bl, 1, none⟩) hBl).trans hcl1) ((hW.block _ (blk_lt hct)).trans hct) (fun W' hW' => hg W' ((hW.mono hn₀).trans hW')) h0
end Go.Proofs.Ytmnamkcjldaoeaa.PAll
namespace Go.Proofs.Ytmnamkcjldaoeaa.PAll
open Go.RowKit Go.Proofs.YtmnamkcjldaoeaaW.PrintWords Go.Proofs.YtmnamkcjldaoeaaW.PrintLast Go.Proofs.YtmnamkcjldaoeaaW.PrintMore
set_option linter.unusedVariables false
set_option linter.unusedSimpArgs false
def arrV (xs : List Int) : Array Value := (xs.map (Value.int .i64)).toArray
theorem arrV_get (xs : List Int) (i : Nat) (h : i < xs.length) : (arrV xs)[i]? = some (.int .i64 (xs.getD i 0)) := by
 simp [arrV, h]
theorem arrV_set (xs : List Int) (i : Nat) (v : Int) : (arrV xs).setIfInBounds i (.int .i64 v) = arrV (xs.set i v) := by
 simp [arrV, List.map_set]
def ArrAt (w : World) (b t : Nat) (xs : List Int) : Prop := w.heap[b]? = some (.cells (arrV xs) t (0, 0))
theorem ArrAt.cell {w : World} {b t : Nat} {xs : List Int} (h : ArrAt w b t xs) (i : Nat) (hi : i < xs.length) : w.cell? ⟨b, i, none⟩ = some (.int .i64 (xs.getD i 0)) := (blk_cell h i).trans (arrV_get xs i hi)
theorem ArrAt.frozen {w : World} {b t : Nat} {xs : List Int} (h : ArrAt w b t xs) (i : Nat) : w.frozen? ⟨b, i, none⟩ = false := blk_frozen h i
theorem ArrAt.set {w : World} {b t : Nat} {xs : List Int} (h : ArrAt w b t xs) (i : Nat) (v : Int) : ArrAt (w.setCell ⟨b, i, none⟩ (.int .i64 v)) b t (xs.set i v) := by
 have := blk_set h i (.int .i64 v)
 rw [arrV_set] at this
 exact this
theorem ArrAt.below {w w1 : World} {b t : Nat} {xs : List Int} (h : ArrAt w b t xs) (hb : Below w.heap.size w w1) : ArrAt w1 b t xs := (hb.block b (blk_lt h)).trans h
theorem ArrAt.new (w : World) (xs : List Int) (t : Nat) : ArrAt (w.alloc (.cells (arrV xs) t (0, 0))) w.heap.size t xs := blk_new _ _
def sound (g : S85) : Prop := 0 ≤ g.f0 ∧ g.f0 < 6 ∧ 0 ≤ g.f1 ∧ g.f1 < 6 ∧ g.f0 ≠ g.f1
def addAt (s : List Int) (i : Int) (v : Int) : List Int := s.set i.toNat (wrap64 (s.getD i.toNat 0 + v))
def addGame (s : List Int) (g : S85) : List Int := addAt (addAt s g.f0 (givesF g).1) g.f1 (givesF g).2
def sumsF (l : List S85) : List Int := l.foldl addGame [0, 0, 0, 0, 0, 0]
theorem addGame_length (s : List Int) (g : S85) : (addGame s g).length = s.length := by simp [addGame, addAt]
theorem foldl_addGame_length (l : List S85) (s : List Int) : (l.foldl addGame s).length = s.length := by
 induction l generalizing s with
 | nil => rfl
 | cons g l ih => rw [List.foldl_cons, ih, addGame_length]
theorem sumsF_length (l : List S85) : (sumsF l).length = 6 := by
 unfold sumsF
 rw [foldl_addGame_length]; rfl
theorem sumsF_succ (l : List S85) (k : Nat) (hk : k < l.length) : sumsF (l.take (k + 1)) = addGame (sumsF (l.take k)) (l.getD k z85) := by
 unfold sumsF
 rw [List.take_succ_eq_append_getElem hk, List.foldl_append, List.getD_eq_getElem?_getD, List.getElem?_eq_getElem hk]
 simp only [List.foldl_cons, List.foldl_nil, Option.getD_some]
set_option maxRecDepth 100000 in
set_option maxHeartbeats 2000000 in
theorem sums_calls (a0 : Int) (A : Option Addr) (c : Nat) (l : List S85) (w : World) (hr : Kd.C k85 w A l.length l) (hs : ∀ g ∈ l, sound g) :
  Calls Try.prog 61 #[.agg #[.int .i64 a0, .slice A l.length c]] w fun e w' => e = .returned (.agg (arrV (sumsF l))) ∧ Below w.heap.size w w' := by
 have HR := Aside0.mk hr
 have hm : l.length ≤ 9223372036854775807 := hr.2.1
 have HS := Lib.hid hs
 clear hr hs
 go_enter Try.func61, Try.ntmps61
 go_wp2
 go_loopw [10] (fun v wr => ∃ k : Nat, k ≤ l.length ∧ v = .int .i64 k ∧ Aside0 (ArrAt wr (w.heap.size + 1) 102 (sumsF (l.take k))) ∧ Aside0 (Below w.heap.size w wr)) (fun v _ => l.length - (intOf v).toNat)
 case atStart => exact ⟨0, Nat.zero_le _, rfl, ⟨by show ArrAt _ _ _ [0, 0, 0, 0, 0, 0]; exact (show w.heap.size + 1 = (w.alloc (.cells #[.int .i64 a0, .slice A l.length c] 32)).heap.size by simp) ▸ ArrAt.new (w.alloc (.cells #[.int .i64 a0, .slice A l.length c] 32)) [0, 0, 0, 0, 0, 0] 102⟩, ⟨below_alloc (below_alloc (Below.refl _ _) _) _⟩⟩
 case round =>
  obtain ⟨k, hk, rfl, hA, hB⟩ := hrel
  by_cases hlt : k < l.length
  ·
   obtain ⟨ad, rfl, q0, q1, q2, q3, q4⟩ := at_T85 (Kd.C_below HR.out hB.out) (k : Int) (by omega) (by omega)
   simp only [Int.toNat_natCast] at q0 q1 q2 q3 q4
   have HX := Lib.hid (sumsF_succ l k hlt)
   have hx : rd_T85 l ↑k = l.getD k z85 := rfl
   have hso : sound (l.getD k z85) := HS.out _ (by rw [List.getD_eq_getElem?_getD, List.getElem?_eq_getElem hlt]; exact List.getElem_mem hlt)
   rw [← hx] at hso
   obtain ⟨x, hxx⟩ : ∃ x, rd_T85 l ↑k = x := ⟨_, rfl⟩
   have HX2 : Hid (l.getD k z85 = x) := hxx
   rw [hxx] at q0 q1 q2 q3 q4 hso
   clear hx hxx
   obtain ⟨a1, a2, a3, a4, a5⟩ := hso
   have HN := Lib.hid a5
   clear a5
   obtain ⟨p1, p2, hp⟩ : ∃ p1 p2, givesF x = (p1, p2) := ⟨_, _, rfl⟩
   have HP := Lib.hid hp
   clear hp
   obtain ⟨xs, hxs⟩ : ∃ xs, sumsF (l.take k) = xs := ⟨_, rfl⟩
   have hlen : xs.length = 6 := by rw [← hxs]; exact sumsF_length _
   have HL := Lib.hid hlen
   have HXS := Lib.hid hxs
   rw [hxs] at hA
   clear hxs hlen
   have hsz := below_size hB.out
   have hBlt : w.heap.size + 1 < wr.heap.size := blk_lt hA.out
   go_wp2_with (go_at_call 95; (with_reducible refine (league_Game_gives.calls _ _ _ _ _ p1 p2 _ (by rw [gives_eq x, HP.out])).mono ?_); rintro e w1 ⟨rfl, hb1⟩; have b0 : w1.cell? ⟨wr.heap.size, 0, none⟩ = some (.int .i64 x.f0) := (hb1.cell (by simp)).trans (World.cell?_alloc_new _ _ _ _); have b1 : w1.cell? ⟨wr.heap.size, 1, none⟩ = some (.int .i64 x.f1) := (hb1.cell (by simp)).trans (World.cell?_alloc_new _ _ _ _); have hgw : Below wr.heap.size wr w1 := below_then (below_alloc (Below.refl _ _) _) (by simp) hb1; have HGW := Aside0.mk hgw; have HA1 := Aside0.mk (hA.out.below hgw); clear hgw hb1; have d0 := HA1.out.cell x.f0.toNat (by rw [HL.out]; omega); have d1 := HA1.out.cell x.f1.toNat (by rw [HL.out]; omega); have f0 := HA1.out.frozen x.f0.toNat; have f1 := HA1.out.frozen x.f1.toNat; have ne : x.f0.toNat ≠ x.f1.toNat := (by have := HN.out; omega); have ne2 : x.f1.toNat ≠ x.f0.toNat := (by have := HN.out; omega))
   go_roundw
   case rel =>
    refine ⟨k + 1, by omega, by go_num, ⟨?_⟩, ⟨?_⟩⟩
    ·
     rw [HX.out, HX2.out, HXS.out]
     have h1 := (HA1.out.set x.f0.toNat (wrap64 (xs[x.f0.toNat]?.getD 0 + p1))).set x.f1.toNat (wrap64 (xs[x.f1.toNat]?.getD 0 + p2))
     unfold addGame addAt
     rw [HP.out]
     simp only [List.getD_eq_getElem?_getD, List.getElem?_set_ne ne]
     exact h1
    ·
     exact ((hB.out.trans (HGW.out.mono hsz)).setCell (by simp) _).setCell (by simp) _
   case measure => simp [intOf]; omega
  ·
   obtain rfl : k = l.length := by omega
   have HT : Hid (l.take l.length = l) := List.take_length
   obtain ⟨xs, hxs⟩ : ∃ xs, sumsF l = xs := ⟨_, rfl⟩
   have hA' : Hid (ArrAt wr (w.heap.size + 1) 102 xs) := by have := hA.out; rw [HT.out, hxs] at this; exact this
   have hlen : xs.length = 6 := by rw [← hxs]; exact sumsF_length _
   have HXS := Lib.hid hxs
   clear hxs hA
   match xs, hlen, HXS, hA' with
   | [y0, y1, y2, y3, y4, y5], _, HXS, hA' =>
    have c0 := hA'.out.cell 0 (by simp)
    have c1 := hA'.out.cell 1 (by simp)
    have c2 := hA'.out.cell 2 (by simp)
    have c3 := hA'.out.cell 3 (by simp)
    have c4 := hA'.out.cell 4 (by simp)
    have c5 := hA'.out.cell 5 (by simp)
    have f0 := hA'.out.frozen 0
    have f1 := hA'.out.frozen 1
    have f2 := hA'.out.frozen 2
    have f3 := hA'.out.frozen 3
    have f4 := hA'.out.frozen 4
    have f5 := hA'.out.frozen 5
    go_wp2
    refine bodyPost_ret (v := .agg #[.int .i64 y0, .int .i64 y1, .int .i64 y2, .int .i64 y3, .int .i64 y4, .int .i64 y5]) (by simp [results, Try.results61, go_sem, c0, c1, c2, c3, c4, c5]) rfl ⟨by rw [HXS.out]; rfl, ?_⟩
    exact (((((hB.out.setCell (by simp) _).setCell (by simp) _).setCell (by simp) _).setCell (by simp) _).setCell (by simp) _).setCell (by simp) _
end Go.Proofs.Ytmnamkcjldaoeaa.PAll
