/- Parts of the proof of leagueOrder_holds, in order: HGame -/
import Derived.Test.YtmnamkcjldaoeaaKOrder3
import Derived.Lib.Hide
import Derived.Outline
namespace Go.Proofs.Ytmnamkcjldaoeaa.PAll
open Go.RowKit Go.Proofs.YtmnamkcjldaoeaaW.PrintWords Go.Proofs.YtmnamkcjldaoeaaW.PrintLast Go.Proofs.YtmnamkcjldaoeaaW.PrintMore
set_option linter.unusedVariables false
set_option linter.unusedSimpArgs false
def league_League_game.f (a0_0 : Int) (l0_1 : List (S85)) (a1_0 : Int) (a1_1 : Int) (a1_2 : Int) (a1_3 : Int) (a1_4 : Bool) : Option (Bool) := (league_within.f a1_2 0 3000).bind fun t1004 => (if t1004 = true then ((league_within.f a1_3 0 3000).bind fun t1005 => ((league_League_team.f a0_0 l0_1 a1_0).bind fun t1006 => (if t1006 = true then ((league_League_team.f a0_0 l0_1 a1_1).bind fun t1007 => (if t1007 = true then (if a1_0 = a1_1 then (some false) else (if t1005 = true then (if a1_4 = true then (if a1_2 = 0 then (some (a1_3 == 0)) else (some false)) else (some true)) else (some false))) else (some false))) else (some false)))) else ((league_League_team.f a0_0 l0_1 a1_0).bind fun t1008 => (if t1008 = true then ((league_League_team.f a0_0 l0_1 a1_1).bind fun t1009 => (if t1009 = true then (if a1_0 = a1_1 then (some false) else (some false)) else (some false))) else (some false))))
def blk85 (W : World) (b : Nat) (x0 x1 x2 x3 : Int) (x4 : Bool) : Prop := W.heap[b]? = some (.cells #[.int .i64 x0, .int .i64 x1, .int .i64 x2, .int .i64 x3, .bool x4] 85 (0, 0))
theorem blk85_cells {W : World} {b : Nat} {x0 x1 x2 x3 : Int} {x4 : Bool} (h : blk85 W b x0 x1 x2 x3 x4) :
  W.cell? ⟨b, 0, none⟩ = some (.int .i64 x0) ∧ W.cell? ⟨b, 1, none⟩ = some (.int .i64 x1) ∧ W.cell? ⟨b, 2, none⟩ = some (.int .i64 x2) ∧ W.cell? ⟨b, 3, none⟩ = some (.int .i64 x3) ∧ W.cell? ⟨b, 4, none⟩ = some (.bool x4) ∧
  W.frozen? ⟨b, 0, none⟩ = false ∧ W.frozen? ⟨b, 1, none⟩ = false ∧ W.frozen? ⟨b, 2, none⟩ = false ∧ W.frozen? ⟨b, 3, none⟩ = false ∧ W.frozen? ⟨b, 4, none⟩ = false :=
 ⟨(blk_cell h 0).trans rfl, (blk_cell h 1).trans rfl, (blk_cell h 2).trans rfl, (blk_cell h 3).trans rfl, (blk_cell h 4).trans rfl, blk_frozen h 0, blk_frozen h 1, blk_frozen h 2, blk_frozen h 3, blk_frozen h 4⟩
def blk32 (W : World) (b : Nat) (a : Int) (v : Value) : Prop := W.heap[b]? = some (.cells #[.int .i64 a, v] 32 (0, 0))
theorem blk32_cells {W : World} {b : Nat} {a : Int} {v : Value} (h : blk32 W b a v) : W.cell? ⟨b, 0, none⟩ = some (.int .i64 a) ∧ W.cell? ⟨b, 1, none⟩ = some v ∧ W.frozen? ⟨b, 0, none⟩ = false ∧ W.frozen? ⟨b, 1, none⟩ = false :=
 ⟨(blk_cell h 0).trans rfl, (blk_cell h 1).trans rfl, blk_frozen h 0, blk_frozen h 1⟩
theorem within_some (a b c : Int) : ∃ r, league_within.f a b c = some r := by
 unfold league_within.f
 split
 ·
  exact ⟨_, rfl⟩
 ·
  exact ⟨_, rfl⟩
theorem team_some (a : Int) (l : List S85) (x : Int) : ∃ r, league_League_team.f a l x = some r := by
 unfold league_League_team.f
 obtain ⟨r, hr⟩ := within_some x 0 (wrap64 (a - 1))
 rw [hr]
 exact ⟨r, rfl⟩
set_option maxHeartbeats 4000000 in
theorem league_League_game.calls (a0_0 : Int) (A0_1 : Option Addr) (c0_1 : Nat) (l0_1 : List (S85)) (a1_0 : Int) (a1_1 : Int) (a1_2 : Int) (a1_3 : Int) (a1_4 : Bool) (r : Bool) (w : World) (hr0_1 : Kd.C k85 w A0_1 l0_1.length l0_1) (hc0_1 : l0_1.length ≤ c0_1) (h : league_League_game.f a0_0 l0_1 a1_0 a1_1 a1_2 a1_3 a1_4 = some r) :
  Calls Try.prog 52 #[.agg #[.int .i64 a0_0, .slice A0_1 l0_1.length c0_1], .agg #[.int .i64 a1_0, .int .i64 a1_1, .int .i64 a1_2, .int .i64 a1_3, .bool a1_4]] w fun e w' => e = .returned (.bool r) ∧ Below w.heap.size w w' := by
 obtain ⟨b1, e1⟩ := within_some a1_2 0 3000
 obtain ⟨b2, e2⟩ := within_some a1_3 0 3000
 obtain ⟨b3, e3⟩ := team_some a0_0 l0_1 a1_0
 obtain ⟨b4, e4⟩ := team_some a0_0 l0_1 a1_1
 unfold league_League_game.f at h
 simp only [e1, e2, e3, e4, Option.bind_some] at h
 have E1 := Lib.hid e1
 have E2 := Lib.hid e2
 have E3 := Lib.hid e3
 have E4 := Lib.hid e4
 clear e1 e2 e3 e4
 have HR := Aside0.mk hr0_1
 have HC := Aside0.mk hc0_1
 clear hr0_1 hc0_1
 have HH := Lib.hid h
 clear h
 have HB : Aside0 (Below w.heap.size w w) := ⟨Below.refl _ _⟩
 have hp : (b1 = false) ∨ (b1 = true ∧ b2 = false) ∨ (b1 = true ∧ b2 = true ∧ a1_4 = false) ∨ (b1 = true ∧ b2 = true ∧ a1_4 = true ∧ (a1_2 == 0) = false) ∨ (b1 = true ∧ b2 = true ∧ a1_4 = true ∧ (a1_2 == 0) = true) := by
  cases b1 <;> cases b2 <;> cases a1_4 <;> cases (a1_2 == 0) <;> simp
 have ht : (b3 = false) ∨ (b3 = true ∧ b4 = false) ∨ (b3 = true ∧ b4 = true ∧ (a1_0 == a1_1) = true ∧ (a1_0 != a1_1) = false) ∨ (b3 = true ∧ b4 = true ∧ (a1_0 == a1_1) = false ∧ (a1_0 != a1_1) = true) := by
  unfold bne
  cases b3 <;> cases b4 <;> cases (a1_0 == a1_1) <;> simp
 rcases ht with rfl | ⟨rfl, rfl⟩ | ⟨rfl, rfl, k1, k2⟩ | ⟨rfl, rfl, k1, k2⟩ <;> rcases hp with rfl | ⟨rfl, rfl⟩ | ⟨rfl, rfl, rfl⟩ | ⟨rfl, rfl, rfl, k3⟩ | ⟨rfl, rfl, rfl, k3⟩
 all_goals
  go_enter Try.func52, Try.ntmps52
  go_wp2_with (first
   | ((with_reducible refine gate_dst (N := 2) rfl ?_); refine box_event ?hg (N := 2) ?hd (cs := #[.int .i64 a0_0, .slice A0_1 l0_1.length c0_1]) (t := 32) ?hr ?_; (case hd => rfl); (case hg => rfl); (case hr => first | (go_simp; done) | (go_simp; rfl)); intro g1 hg w1 hbox hb; have BK1 : Aside0 (blk32 w1 g1 a0_0 (.slice A0_1 l0_1.length c0_1)) := ⟨hbox⟩; have HB := Aside0.mk (below_step (HB.out) hb); clear hb hbox hg)
   | ((with_reducible refine gate_dst (N := 3) rfl ?_); refine box_event ?hg (N := 3) ?hd (cs := #[.int .i64 a1_0, .int .i64 a1_1, .int .i64 a1_2, .int .i64 a1_3, .bool a1_4]) (t := 85) ?hr ?_; (case hd => rfl); (case hg => rfl); (case hr => first | (go_simp; done) | (go_simp; rfl)); intro g2 hg w2 hbox hb; have BK1 : Aside0 (blk32 w2 g1 a0_0 (.slice A0_1 l0_1.length c0_1)) := ⟨blk_below BK1.out hb⟩; have BK2 : Aside0 (blk85 w2 g2 a1_0 a1_1 a1_2 a1_3 _) := ⟨hbox⟩; have HB := Aside0.mk (below_step HB.out hb); clear hb hbox hg; obtain ⟨m0, m1, m2, m3, m4, m5, m6, m7, m8, m9⟩ := blk85_cells BK2.out; obtain ⟨n0, n1, n2, n3⟩ := blk32_cells BK1.out)
   | ((with_reducible refine gate_dst (N := 3) rfl ?_); refine box_event ?hg (N := 3) ?hd (cs := #[.int .i64 a1_0, .int .i64 a1_1, .int .i64 a1_2, .int .i64 a1_3, .bool false]) (t := 85) ?hr ?_; (case hd => rfl); (case hg => rfl); (case hr => first | (go_simp; done) | (go_simp; rfl)); intro g2 hg w2 hbox hb; have BK1 : Aside0 (blk32 w2 g1 a0_0 (.slice A0_1 l0_1.length c0_1)) := ⟨blk_below BK1.out hb⟩; have BK2 : Aside0 (blk85 w2 g2 a1_0 a1_1 a1_2 a1_3 _) := ⟨hbox⟩; have HB := Aside0.mk (below_step HB.out hb); clear hb hbox hg; obtain ⟨m0, m1, m2, m3, m4, m5, m6, m7, m8, m9⟩ := blk85_cells BK2.out; obtain ⟨n0, n1, n2, n3⟩ := blk32_cells BK1.out)
   | ((with_reducible refine gate_dst (N := 3) rfl ?_); refine box_event ?hg (N := 3) ?hd (cs := #[.int .i64 a1_0, .int .i64 a1_1, .int .i64 a1_2, .int .i64 a1_3, .bool true]) (t := 85) ?hr ?_; (case hd => rfl); (case hg => rfl); (case hr => first | (go_simp; done) | (go_simp; rfl)); intro g2 hg w2 hbox hb; have BK1 : Aside0 (blk32 w2 g1 a0_0 (.slice A0_1 l0_1.length c0_1)) := ⟨blk_below BK1.out hb⟩; have BK2 : Aside0 (blk85 w2 g2 a1_0 a1_1 a1_2 a1_3 _) := ⟨hbox⟩; have HB := Aside0.mk (below_step HB.out hb); clear hb hbox hg; obtain ⟨m0, m1, m2, m3, m4, m5, m6, m7, m8, m9⟩ := blk85_cells BK2.out; obtain ⟨n0, n1, n2, n3⟩ := blk32_cells BK1.out)
   | (go_at_call 81; (with_reducible refine (league_within.calls a1_2 0 3000 _ _ E1.out).mono ?_); rintro e w' ⟨rfl, ⟨nd, rfl⟩⟩)
   | (go_at_call 81; (with_reducible refine (league_within.calls a1_3 0 3000 _ _ E2.out).mono ?_); rintro e w' ⟨rfl, ⟨nd, rfl⟩⟩)
   | (go_at_call 74; (with_reducible refine (league_League_team.calls a0_0 _ _ l0_1 a1_0 _ _ ?side1 HC.out E3.out).mono ?_); (case side1 => exact Kd.C_below HR.out (pw_below_drewN HB.out _)); rintro e w3 ⟨rfl, hb⟩; have BK1 : Aside0 (blk32 w3 g1 a0_0 (.slice A0_1 l0_1.length c0_1)) := ⟨blk_below (blk_drewN BK1.out _) hb⟩; have BK2 : Aside0 (blk85 w3 g2 a1_0 a1_1 a1_2 a1_3 _) := ⟨blk_below (blk_drewN BK2.out _) hb⟩; have HB := Aside0.mk (below_step (pw_below_drewN HB.out _) hb); clear hb; obtain ⟨m0, m1, m2, m3, m4, m5, m6, m7, m8, m9⟩ := blk85_cells BK2.out; obtain ⟨n0, n1, n2, n3⟩ := blk32_cells BK1.out)
   | (go_at_call 74; (with_reducible refine (league_League_team.calls a0_0 _ _ l0_1 a1_1 _ _ ?side1 HC.out E4.out).mono ?_); (case side1 => exact Kd.C_below HR.out HB.out); rintro e w3 ⟨rfl, hb⟩; have BK1 : Aside0 (blk32 w3 g1 a0_0 (.slice A0_1 l0_1.length c0_1)) := ⟨blk_below BK1.out hb⟩; have BK2 : Aside0 (blk85 w3 g2 a1_0 a1_1 a1_2 a1_3 _) := ⟨blk_below BK2.out hb⟩; have HB := Aside0.mk (below_step HB.out hb); clear hb; obtain ⟨m0, m1, m2, m3, m4, m5, m6, m7, m8, m9⟩ := blk85_cells BK2.out; obtain ⟨n0, n1, n2, n3⟩ := blk32_cells BK1.out))
  go_ret
  refine ⟨?_, HB.out⟩
  have h := HH.out
  simp_all
end Go.Proofs.Ytmnamkcjldaoeaa.PAll
