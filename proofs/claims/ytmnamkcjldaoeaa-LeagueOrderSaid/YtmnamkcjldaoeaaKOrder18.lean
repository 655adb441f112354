/- Parts of the proof of leagueOrder_holds, in order: HRuns, HAwake, HP1, HP4, HP12, HFirst0, HFirst, HP2, HP8, HOrder0, HP7, HCanFirst, HLaw, HOrder1, HGames, HPlayedW -/
import Derived.Test.YtmnamkcjldaoeaaKOrder3
import Derived.Test.YtmnamkcjldaoeaaKOrder5
import Derived.Test.YtmnamkcjldaoeaaKOrder6
import Derived.Test.YtmnamkcjldaoeaaKOrder11
import Derived.Test.YtmnamkcjldaoeaaKOrder13
import Derived.Test.YtmnamkcjldaoeaaKOrder14
import Derived.Test.YtmnamkcjldaoeaaKOrder16
import Derived.Test.YtmnamkcjldaoeaaKOrder17
import Derived.Deep.DeepCutAuto
import Derived.Deep.RegionWith
namespace Go.Proofs.Ytmnamkcjldaoeaa.PAll
open Go.RowKit Go.Proofs.YtmnamkcjldaoeaaW.PrintWords Go.Proofs.YtmnamkcjldaoeaaW.PrintLast Go.Proofs.YtmnamkcjldaoeaaW.PrintMore
set_option linter.unusedVariables false
set_option linter.unusedSimpArgs false
def upTo (ys : List Int) (k : Nat) : List Int := ys.take k ++ [0, 0, 0, 0, 0, 0].drop k
theorem upTo_length (ys : List Int) (hl : ys.length = 6) (k : Nat) (hk : k ≤ 6) : (upTo ys k).length = 6 := by
 simp [upTo, hl]
 omega
theorem upTo_succ (ys : List Int) (hl : ys.length = 6) (k : Nat) (hk : k < 6) : (upTo ys k).set k (ys.getD k 0) = upTo ys (k + 1) := by
 obtain ⟨y0, y1, y2, y3, y4, y5, rfl⟩ := six_of hl
 match k, hk with
 | 0, _ | 1, _ | 2, _ | 3, _ | 4, _ | 5, _ => rfl
theorem upTo_all (ys : List Int) (hl : ys.length = 6) : upTo ys 6 = ys := by
 obtain ⟨y0, y1, y2, y3, y4, y5, rfl⟩ := six_of hl
 rfl
abbrev runsRB (p : FB) (bg bh b : Nat) (Ao : Option Addr) (co : Nat) : RB := ⟨bg, bh, b, p.team, p.reach, p.base, p.op, p.op.length, .slice (some ⟨bg, 0, none⟩) p.op.length p.op.length, Ao, co⟩
def runsPost (p : FB) (B b : Nat) (Ao : Option Addr) (co : Nat) (w : World) (r : Bool) (gv : List Int) (e : Ending) (w' : World) : Prop :=
 e = .returned (.bool r) ∧ (r = true → ∃ Ag cg, RaceAt w' b p.team p.reach p.base (.slice Ao p.op.length co) (.slice Ag gv.length cg) ∧ Kd.C (Kd.int .i64) w' Ag gv.length gv) ∧ Below B w w'
def givTo (team : Int) (op : List S85) (k : Nat) : List Int := (op.take k).map (give0 team) ++ List.replicate (op.length - k) 0
theorem givTo_length (team : Int) (op : List S85) (k : Nat) (hk : k ≤ op.length) : (givTo team op k).length = op.length := by
 simp [givTo]
 omega
theorem givTo_succ (team : Int) (op : List S85) (k : Nat) (hk : k < op.length) : (givTo team op k).set k (give0 team (op.getD k z85)) = givTo team op (k + 1) := by
 unfold givTo
 rw [List.set_append_right _ _ (by simp; omega), List.take_succ_eq_append_getElem hk, List.map_append, List.append_assoc, List.length_map, List.length_take, Nat.min_eq_left (by omega), Nat.sub_self, show op.length - k = (op.length - (k + 1)) + 1 from by omega, List.replicate_succ, List.set_cons_zero]
 rw [List.getD_eq_getElem?_getD, List.getElem?_eq_getElem hk]
 rfl
theorem givTo_zero (team : Int) (op : List S85) (k : Nat) (hk : k < op.length) (h : give0 team (op.getD k z85) = 0) : givTo team op (k + 1) = givTo team op k := by
 rw [← givTo_succ team op k hk, h]
 refine List.ext_getElem? fun i => ?_
 by_cases e : i = k
 ·
  subst e
  rw [List.getElem?_set_self (by rw [givTo_length _ _ _ (by omega)]; exact hk)]
  unfold givTo
  rw [List.getElem?_append_right (by simp; omega), List.getElem?_replicate, if_pos (by simp; omega)]
 ·
  rw [List.getElem?_set_ne (fun h => e h.symm)]
theorem givTo_all (team : Int) (op : List S85) : givTo team op op.length = op.map (give0 team) := by simp [givTo]
theorem have0_succ (team : Int) (op : List S85) (h : List Int) (k : Nat) (hk : k < op.length) : (op.take (k + 1)).foldl (have0 team) h = have0 team ((op.take k).foldl (have0 team) h) (op.getD k z85) := by
 rw [List.take_succ_eq_append_getElem hk, List.foldl_append, List.getD_eq_getElem?_getD, List.getElem?_eq_getElem hk]
 rfl
theorem have0_skip {team : Int} {h : List Int} {g : S85} (hg : g.f0 = team ∨ g.f1 = team) : have0 team h g = h := if_pos hg
theorem have0_add {team : Int} {h : List Int} {g : S85} (h0 : ¬ g.f0 = team) (h1 : ¬ g.f1 = team) : have0 team h g = h.set g.f1.toNat (wrap64 (h.getD g.f1.toNat 0 + 2)) := if_neg (fun hg => hg.elim h0 h1)
section
variable {q : RB} {w w1 : World} {gv hv : List Int} {n : Nat}
theorem RunW.setG (N : q.N n) (h : RunW q w gv hv) (i : Nat) (v : Int) : RunW q (w.setCell ⟨q.bg, i, none⟩ (.int .i64 v)) (gv.set i v) hv :=
 have z : ∀ k, k ≠ q.bg → (w.setCell ⟨q.bg, i, none⟩ (.int .i64 v)).heap[k]? = w.heap[k]? := fun k hk => Below.heap_setCell w ⟨q.bg, i, none⟩ _ k hk
 ⟨fun e => (h.hg e).set i v, by rw [List.length_set]; exact h.gl, (z _ N.e.1.symm).trans h.hh, h.hl, h.hr.same (z _ N.e.2.1), C85_set h.ho _ _ _ (fun ad e => (N.ea ad e).2.1), h.hgv⟩
theorem RunW.setH (N : q.N n) (h : RunW q w gv hv) (i : Nat) (v : Int) : RunW q (w.setCell ⟨q.bh, i, none⟩ (.int .i64 v)) gv (hv.set i v) :=
 have z : ∀ k, k ≠ q.bh → (w.setCell ⟨q.bh, i, none⟩ (.int .i64 v)).heap[k]? = w.heap[k]? := fun k hk => Below.heap_setCell w ⟨q.bh, i, none⟩ _ k hk
 ⟨fun e => (h.hg e).same (z _ N.e.1), h.gl, h.hh.set i v, by rw [List.length_set]; exact h.hl, h.hr.same (z _ N.e.2.2), C85_set h.ho _ _ _ (fun ad e => (N.ea ad e).2.2), h.hgv⟩
theorem RunW.below (h : RunW q w gv hv) (hb : Below w.heap.size w w1) : RunW q w1 gv hv :=
 ⟨fun e => (h.hg e).same (hb.block _ (h.hg e).lt), h.gl, h.hh.below hb, h.hl, h.hr.below hb, Kd.C_below h.ho hb, h.hgv⟩
theorem RB.Far.toBelow {B : Nat} (h : q.Far w w1) (h1 : B ≤ q.bg) (h2 : B ≤ q.bh) (h3 : B ≤ w.heap.size) : Below B w w1 :=
 ⟨h.os, h.tape, h.output, h.size, fun k hk => h.block k (by omega) (by omega) (by omega)⟩
end
theorem GivAt.made (w : World) (m : Nat) : GivAt (w.alloc (.cells (madeCells #[.int .i64 0] m) 3)) w.heap.size (List.replicate m 0) := by
 refine ⟨_, blk_new _ _, fun i hi => ?_⟩
 rw [List.length_replicate] at hi
 rw [← Array.getElem?_toList, toList_madeCells_one, List.getElem?_replicate, if_pos hi, List.getD_eq_getElem?_getD, List.getElem?_replicate, if_pos hi]
 rfl
def contT (op : List S85) (team reach : Int) (d t : Nat) (x : Bool × List Int × List Int) : Option (Bool × List Int × List Int) := if x.1 = true then settleA op team reach d (t + 1) x.2.1 x.2.2 else some x
def moreW (bh t : Nat) (reach : Int) (w : World) : Nat := (intOf ((w.cell? ⟨bh, t, none⟩).getD (.int .i64 0)) - reach).toNat
theorem moreW_eq {q : RB} {w : World} {gv hv : List Int} (h : RunW q w gv hv) (t : Nat) (ht : t < 6) (reach : Int) : moreW q.bh t reach w = (hv.getD t 0 - reach).toNat := by
 unfold moreW
 rw [h.hh.cell t (by rw [h.hl]; exact ht)]
 rfl
set_option maxRecDepth 100000 in
set_option maxHeartbeats 4000000 in
theorem runs_calls (p : FB) (P : p.ok) (hr0 : 0 ≤ p.reach) (hz : ∀ t : Int, p.n ≤ t → t < 6 → p.base.getD t.toNat 0 = 0) (B b : Nat) (Ao : Option Addr) (co : Nat) (g : Value) (w : World)
  (ha : RaceAt w b p.team p.reach p.base (.slice Ao p.op.length co) g) (ho : Kd.C k85 w Ao p.op.length p.op) (hA : ∀ ad, Ao = some ad → ad.block ≠ b ∧ ad.block < w.heap.size) (hB : B ≤ b)
  (r : Bool) (gv hv : List Int) (h : runsF p.op p.team p.reach p.base = some (r, gv, hv)) :
  Calls Try.prog 80 #[.pointer (some ⟨b, 0, none⟩)] w (runsPost p B b Ao co w r gv) := by
 have HPP := Lib.hid P
 have HL := Lib.hid ha.1
 have HR := Aside0.mk ha
 have HO := Aside0.mk ho
 have HAO := Lib.hid hA
 have HZ := Lib.hid hz
 have hbl := ha.lt
 unfold runsF at h
 have HH := Lib.hid h
 clear ha ho hA hz P h
 have q0 := HR.out.cs 0 (by omega)
 have q1 := HR.out.cs 1 (by omega)
 have q2 := HR.out.cs 2 (by omega)
 have q3 := HR.out.cs 3 (by omega)
 have q4 := HR.out.cs 4 (by omega)
 have q5 := HR.out.cs 5 (by omega)
 obtain ⟨y0, y1, y2, y3, y4, y5, hy⟩ := six_of HL.out
 rw [hy] at q0 q1 q2 q3 q4 q5
 simp only [Nat.add_zero, Nat.reduceAdd, List.getD_cons_zero, List.getD_cons_succ] at q0 q1 q2 q3 q4 q5
 have hix : ∀ (i : Int), 0 ≤ i → i < 6 → ∀ W : World, (Instr.index 102 (.agg #[.int .i64 y0, .int .i64 y1, .int .i64 y2, .int .i64 y3, .int .i64 y4, .int .i64 y5]) (.int .i64 i)).run Try.prog W = .ok (.int .i64 (p.base.getD i.toNat 0)) W := by
  intro i i0 i6 W
  have := index_arr p.base HL.out i i0 i6 W
  rw [hy] at this ⊢
  exact this
 have HIX := Lib.hid hix
 have HY := Lib.hid hy
 clear hy hix
 have e1 := HR.out.c1
 have e0 := HR.out.c0
 have e8 := HR.out.c8
 go_enter Try.func80, Try.ntmps80
 have HW0 : Aside0 (Below w.heap.size w (w.alloc (.cells #[.int .i64 0, .int .i64 0, .int .i64 0, .int .i64 0, .int .i64 0, .int .i64 0] 102))) := ⟨below_alloc (Below.refl _ _) _⟩
 have HA0 : Aside0 (ArrAt (w.alloc (.cells #[.int .i64 0, .int .i64 0, .int .i64 0, .int .i64 0, .int .i64 0, .int .i64 0] 102)) w.heap.size 102 (upTo p.base 0)) := ⟨ArrAt.new w [0, 0, 0, 0, 0, 0] 102⟩
 have ne : b ≠ w.heap.size := by omega
 go_wp2
 go_loopw [13] (fun v wr => ∃ k : Nat, k ≤ 6 ∧ v = .int .i64 k ∧ Aside0 (ArrAt wr w.heap.size 102 (upTo p.base k)) ∧ Aside0 (∀ j, j < k → ¬ p.reach < p.base.getD j 0) ∧ Aside0 (Below w.heap.size w wr)) (fun v _ => 6 - (intOf v).toNat)
 case atStart => exact ⟨0, by omega, rfl, HA0, ⟨fun j hj => by omega⟩, HW0⟩
 case round =>
  obtain ⟨k, hk, rfl, hA, hN, hBW⟩ := hrel
  by_cases hlt : k < 6
  ·
   have hi := HIX.out (k : Int) (by omega) (by omega)
   rw [Int.toNat_natCast] at hi
   have HU := Lib.hid (upTo_succ p.base HL.out k hlt)
   have hlen := upTo_length p.base HL.out k (by omega)
   obtain ⟨y, hyy⟩ : ∃ y, p.base.getD k 0 = y := ⟨_, rfl⟩
   have HYY := Lib.hid hyy
   rw [hyy] at hi
   have h1 := (HR.out.below hBW.out).c1
   have hf := hA.out.frozen k
   have hcl := hA.out.cell k (by rw [hlen]; omega)
   obtain ⟨z, hzz⟩ : ∃ z, (upTo p.base k).getD k 0 = z := ⟨_, rfl⟩
   rw [hzz] at hcl
   clear hzz
   have hsz := below_size hBW.out
   have ne2 : b ≠ w.heap.size := by omega
   clear hyy
   by_cases c : p.reach < y
   ·
    have cb : decide (y > p.reach) = true := decide_eq_true c
    have HE : Hid (r = false) := by
     have := HH.out
     rw [if_pos ⟨y, by rw [← HYY.out, List.getD_eq_getElem?_getD, List.getElem?_eq_getElem (by rw [HL.out]; exact hlt)]; exact List.getElem_mem _, c⟩] at this
     injection this with this
     injection this with this
     exact this.symm
    clear c
    go_wp2
    refine bodyPost_ret (v := .bool false) (by simp [results, Try.results80, go_sem]) rfl ⟨by rw [HE.out], fun e => (by rw [HE.out] at e; cases e), ?_⟩
    exact (hBW.out.setCell (by simp) _).mono (by omega)
   ·
    have cb : decide (y > p.reach) = false := decide_eq_false c
    have HCC := Lib.hid c
    clear c
    go_wp2
    go_roundw
    case rel =>
     refine ⟨k + 1, by omega, by simp, ⟨?_⟩, ⟨fun j hj => ?_⟩, ⟨hBW.out.setCell (by simp) _⟩⟩
     ·
      rw [← HU.out, HYY.out]
      exact hA.out.set k y
     ·
      rcases Nat.lt_or_ge j k with h | h
      ·
       exact hN.out j h
      ·
       rw [show j = k by omega, HYY.out]
       exact HCC.out
    case measure => simp [intOf]; omega
  ·
   obtain rfl : k = 6 := by omega
   rw [show ((6 : Nat) : Int) = 6 from rfl]
   have HH2 : Hid (settleA p.op p.team p.reach 6 0 (p.op.map (give0 p.team)) (p.op.foldl (have0 p.team) p.base) = some (r, gv, hv)) := by
    have := HH.out
    rw [if_neg (by
     rintro ⟨y, hy, hlt⟩
     obtain ⟨i, hi, rfl⟩ := List.getElem_of_mem hy
     have h2 := hN.out i (by rw [HL.out] at hi; exact hi)
     rw [List.getD_eq_getElem?_getD, List.getElem?_eq_getElem hi, Option.getD_some] at h2
     exact h2 hlt)] at this
    exact this
   have HA : Aside0 (ArrAt wr w.heap.size 102 p.base) := ⟨by have := hA.out; rw [upTo_all p.base HL.out] at this; exact this⟩
   clear hA hN q0 q1 q2 q3 q4 q5
   have hol := HPP.out.ol
   have hmk := print_make (P := Try.prog) 34 3 .i64 8 Try.underlying34 info3 (by decide) p.op.length (by omega)
   have HRR := Aside0.mk (HR.out.below hBW.out)
   have d8 := HRR.out.c8
   have HRA := Aside0.mk (HRR.out.below (below_alloc (Below.refl _ _) (.cells (madeCells #[.int .i64 0] p.op.length) 3)))
   have d9 := HRA.out.c9
   have d9f := HRA.out.frozen 9
   have hsz := below_size hBW.out
   have hwr : w.heap.size < wr.heap.size := blk_lt HA.out
   have ne2 : b ≠ wr.heap.size := by omega
   clear e0 e1 e8
   go_upto_region 10 with fail
   obtain ⟨W1, hW1⟩ : ∃ W, W = ((wr.alloc (.cells (madeCells #[.int .i64 0] p.op.length) 3)).setCell ⟨b, 9, none⟩ (.slice (some ⟨wr.heap.size, 0, none⟩) p.op.length p.op.length)) := ⟨_, rfl⟩
   rw [← hW1]
   obtain ⟨bg, hbg⟩ : ∃ k, k = wr.heap.size := ⟨_, rfl⟩
   obtain ⟨bh, hbh⟩ : ∃ k, k = w.heap.size := ⟨_, rfl⟩
   have HN1 : Aside0 ((runsRB p bg bh b Ao co).N W1.heap.size) := ⟨by
    rw [hbg, hbh, hW1]
    refine ⟨⟨by show wr.heap.size ≠ w.heap.size; omega, by show b ≠ wr.heap.size; omega, by show b ≠ w.heap.size; omega⟩, ⟨?_, ?_, ?_⟩, fun ad e => ?_⟩
    ·
     show wr.heap.size < _; simp
    ·
     show w.heap.size < _; simp; omega
    ·
     show b < _; simp; omega
    ·
     have := HAO.out ad e
     refine ⟨by simp; omega, by show ad.block ≠ wr.heap.size; omega, by show ad.block ≠ w.heap.size; omega⟩⟩
   have HR1 : Aside0 (RunW (runsRB p bg bh b Ao co) W1 (givTo p.team p.op 0) p.base) := ⟨by
    have hb1 := below_alloc (Below.refl wr.heap.size wr) (.cells (madeCells #[.int .i64 0] p.op.length) 3)
    have z : ∀ k, k ≠ b → W1.heap[k]? = (wr.alloc (.cells (madeCells #[.int .i64 0] p.op.length) 3)).heap[k]? := fun k hk => by rw [hW1]; exact Below.heap_setCell _ ⟨b, 9, none⟩ _ k hk
    rw [hbg, hbh]
    refine ⟨fun _ => ?_, givTo_length _ _ _ (Nat.zero_le _), (z _ (fun h => ne h.symm)).trans (HA.out.below hb1), HL.out, ?_, ?_, fun _ => rfl⟩
    ·
     exact (GivAt.made wr p.op.length).same (z _ (fun h => ne2 h.symm))
    ·
     rw [hW1]; exact HRA.out.set9 _
    ·
     exact C85_same (Kd.C_below (Kd.C_below HO.out (hBW.out)) hb1) (fun ad e => z _ (HAO.out ad e).1)⟩
   have HB1 : Aside0 (Below B w W1) := ⟨by
    rw [hW1]
    exact ((hBW.out.mono (by omega)).trans ((below_alloc (Below.refl _ wr) _).mono (by omega))).setCell (by simpa using hB) _⟩
   have hBg : B ≤ bg := by omega
   have hBh : B ≤ bh := by omega
   have f0 : W1.cell? ⟨b, 0, none⟩ = some (.int .i64 p.team) := HR1.out.hr.c0
   have f8 : W1.cell? ⟨b, 8, none⟩ = some (.slice Ao p.op.length co) := HR1.out.hr.c8
   rw [← hbg, ← hbh]
   clear hmk d8 d9 d9f hW1 HRA HRR HA hbg hbh ne ne2 hwr hsz
   go_wp2
   go_loopw [41] (fun v wr => ∃ k : Nat, k ≤ p.op.length ∧ v = .int .i64 k ∧ Aside0 (RunW (runsRB p bg bh b Ao co) wr (givTo p.team p.op k) ((p.op.take k).foldl (have0 p.team) p.base)) ∧ Aside0 (W1.heap.size ≤ wr.heap.size) ∧ Aside0 (Below B w wr)) (fun v _ => p.op.length - (intOf v).toNat)
   case atStart => exact ⟨0, Nat.zero_le _, rfl, HR1, ⟨Nat.le_refl _⟩, HB1⟩
   case round =>
    obtain ⟨k, hk2, rfl, hS, hZ, hB2⟩ := hrel
    have r0 : wr.cell? ⟨b, 0, none⟩ = some (.int .i64 p.team) := hS.out.hr.c0
    have hN2 := HN1.out.lt
    have lb : b < wr.heap.size := Nat.lt_of_lt_of_le hN2.2.2 hZ.out
    have lbg : bg < wr.heap.size := Nat.lt_of_lt_of_le hN2.1 hZ.out
    have lbh : bh < wr.heap.size := Nat.lt_of_lt_of_le hN2.2.1 hZ.out
    clear hN2
    by_cases hlt2 : k < p.op.length
    ·
     have hC : Kd.C k85 wr Ao p.op.length p.op := hS.out.ho
     obtain ⟨ag, ea, g0, g1, g2, g3, g4⟩ := at_T85 hC (k : Int) (by omega) (by omega)
     cases ea
     simp only [Int.toNat_natCast] at g0 g1 g2 g3 g4
     have hx : rd_T85 p.op ↑k = p.op.getD k z85 := rfl
     obtain ⟨x, hxx⟩ : ∃ x, rd_T85 p.op ↑k = x := ⟨_, rfl⟩
     have HX2 : Hid (p.op.getD k z85 = x) := hxx
     rw [hxx] at g0 g1 g2 g3 g4
     have hso : sound x := by rw [← hxx, hx]; exact ok_sound HPP.out _ (by rw [List.getD_eq_getElem?_getD, List.getElem?_eq_getElem hlt2]; exact List.getElem_mem hlt2)
     clear hx hxx hC
     obtain ⟨a1, a2, a3, a4, a5⟩ := hso
     have HNE := Lib.hid a5
     clear a5
     have hne : p.op ≠ [] := by intro e; rw [e] at hlt2; cases hlt2
     have r9 : wr.cell? ⟨b, 9, none⟩ = some (.slice (some ⟨bg, 0, none⟩) p.op.length p.op.length) := hS.out.hr.c9
     have eg : wr.cell? ⟨bg, k, none⟩ = some (.int .i64 ((givTo p.team p.op k).getD k 0)) := (hS.out.hg hne).cell k (by rw [hS.out.gl]; exact hlt2)
     have fg : wr.frozen? ⟨bg, k, none⟩ = false := (hS.out.hg hne).frozen k
     have eh : wr.cell? ⟨bh, x.f1.toNat, none⟩ = some (.int .i64 (((p.op.take k).foldl (have0 p.team) p.base).getD x.f1.toNat 0)) := hS.out.hh.cell x.f1.toNat (by rw [hS.out.hl]; omega)
     have fh : wr.frozen? ⟨bh, x.f1.toNat, none⟩ = false := hS.out.hh.frozen x.f1.toNat
     obtain ⟨gk, hgk⟩ : ∃ v, (givTo p.team p.op k).getD k 0 = v := ⟨_, rfl⟩
     obtain ⟨hk1, hhk⟩ : ∃ v, ((p.op.take k).foldl (have0 p.team) p.base).getD x.f1.toNat 0 = v := ⟨_, rfl⟩
     rw [hgk] at eg
     rw [hhk] at eh
     have HHK := Lib.hid hhk
     clear hgk hhk hne
     have HH1 := Lib.hid (have0_succ p.team p.op p.base k hlt2)
     have HS1 := Lib.hid (givTo_succ p.team p.op k hlt2)
     have HS0 := Lib.hid (givTo_zero p.team p.op k hlt2)
     have n1 : b ≠ wr.heap.size := by omega
     have n2 : bg ≠ wr.heap.size := by omega
     have n3 : bh ≠ wr.heap.size := by omega
     by_cases c1 : x.f0 = p.team
     ·
      have b1 : (p.team == x.f0) = true := beq_iff_eq.2 c1.symm
      have HC1 := Lib.hid c1
      clear c1
      go_wp2
      go_roundw
      case rel =>
       refine ⟨k + 1, by omega, by simp, ⟨?_⟩, ⟨by simp; have := hZ.out; omega⟩, ⟨(hB2.out.setCell (by simpa using hBg) _).alloc (by simp; omega) _⟩⟩
       rw [HH1.out, ← HS1.out, HX2.out, have0_skip (Or.inl HC1.out), show give0 p.team x = 2 from if_pos HC1.out]
       exact (hS.out.setG HN1.out k 2).below (below_alloc (Below.refl _ _) _)
      case measure => simp [intOf]; omega
     ·
      have b1 : (p.team == x.f0) = false := beq_eq_false_iff_ne.2 (fun h => c1 h.symm)
      have HC1 := Lib.hid c1
      clear c1
      by_cases c2 : x.f1 = p.team
      ·
       have b2 : (p.team == x.f1) = true := beq_iff_eq.2 c2.symm
       have HC2 := Lib.hid c2
       clear c2
       go_wp2
       go_roundw
       case rel =>
        refine ⟨k + 1, by omega, by simp, ⟨?_⟩, ⟨by simp; have := hZ.out; omega⟩, ⟨(hB2.out.alloc (by omega) _)⟩⟩
        rw [HH1.out, HS0.out (by rw [HX2.out]; exact if_neg HC1.out), HX2.out, have0_skip (Or.inr HC2.out)]
        exact (hS.out.below (below_alloc (Below.refl _ _) _))
       case measure => simp [intOf]; omega
      ·
       have b2 : (p.team == x.f1) = false := beq_eq_false_iff_ne.2 (fun h => c2 h.symm)
       have HC2 := Lib.hid c2
       clear c2
       go_wp2
       go_roundw
       case rel =>
        refine ⟨k + 1, by omega, by simp, ⟨?_⟩, ⟨by simp; have := hZ.out; omega⟩, ⟨(hB2.out.setCell (by simpa using hBh) _).alloc (by simp; omega) _⟩⟩
        rw [HH1.out, HS0.out (by rw [HX2.out]; exact if_neg HC1.out), HX2.out, have0_add HC1.out HC2.out, HHK.out]
        exact (hS.out.setH HN1.out x.f1.toNat _).below (below_alloc (Below.refl _ _) _)
       case measure => simp [intOf]; omega
    ·
     obtain rfl : k = p.op.length := by omega
     have HS2 : Aside0 (RunW (runsRB p bg bh b Ao co) wr (p.op.map (give0 p.team)) (p.op.foldl (have0 p.team) p.base)) := ⟨by
      have := hS.out
      rw [givTo_all, List.take_length] at this
      exact this⟩
     have HI2 := Aside0.mk (start_ok HPP.out HL.out)
     have HBG := Lib.hid (big_ok HPP.out hr0 HZ.out)
     obtain ⟨gv0, hgv0⟩ : ∃ l, p.op.map (give0 p.team) = l := ⟨_, rfl⟩
     obtain ⟨hv0, hhv0⟩ : ∃ l, p.op.foldl (have0 p.team) p.base = l := ⟨_, rfl⟩
     rw [hgv0, hhv0] at HH2 HS2 HI2
     have HNN : Aside0 ((runsRB p bg bh b Ao co).N wr.heap.size) := ⟨⟨HN1.out.e, ⟨lbg, lbh, lb⟩, fun ad e => ⟨by have := (HN1.out.ea ad e).1; have := hZ.out; omega, (HN1.out.ea ad e).2⟩⟩⟩
     obtain ⟨N0, hN0⟩ : ∃ N0, N0 = wr.heap.size := ⟨_, rfl⟩
     have HZ0 : Hid (N0 ≤ wr.heap.size) := (by show N0 ≤ wr.heap.size; omega)
     have HSB := Lib.hid (show B ≤ N0 by omega)
     rw [← hN0] at HNN
     clear hgv0 hhv0 f0 f8 hS r0 hN0 hZ lb lbg lbh
     go_wp2
     go_loopw [71] (fun v wr => ∃ (t : Nat) (gv1 hv1 : List Int), t ≤ 6 ∧ v = .int .i64 t ∧ Aside0 (settleA p.op p.team p.reach (6 - t) t gv1 hv1 = some (r, gv, hv)) ∧ Aside0 (RunW (runsRB p bg bh b Ao co) wr gv1 hv1) ∧ Aside0 (p.I gv1 hv1) ∧ Aside0 (N0 ≤ wr.heap.size) ∧ Aside0 (Below B w wr)) (fun v _ => 6 - (intOf v).toNat)
     case atStart => exact ⟨0, gv0, hv0, by omega, rfl, ⟨HH2.out⟩, HS2, HI2, ⟨HZ0.out⟩, hB2⟩
     case round =>
      obtain ⟨t, gv1, hv1, ht6, rfl, hX, hR, hI, hZ, hB3⟩ := hrel
      by_cases hlt3 : t < 6
      ·
       have HX1 : Hid ((settleT p.op p.team p.reach t 2000 gv1 hv1).bind (contT p.op p.team p.reach (6 - (t + 1)) t) = some (r, gv, hv)) := by
        have := hX.out
        rw [show 6 - t = (6 - (t + 1)) + 1 from by omega] at this
        exact this
       clear hX
       have bt : decide ((t : Int) < 6) = true := decide_eq_true (by omega)
       go_wp2
       go_loopw [74] (fun _ wr => ∃ (k : Nat) (gv2 hv2 : List Int), Aside0 ((settleT p.op p.team p.reach t k gv2 hv2).bind (contT p.op p.team p.reach (6 - (t + 1)) t) = some (r, gv, hv)) ∧ Aside0 (RunW (runsRB p bg bh b Ao co) wr gv2 hv2) ∧ Aside0 (p.I gv2 hv2) ∧ Aside0 (N0 ≤ wr.heap.size) ∧ Aside0 (Below B w wr)) (fun _ wr => moreW bh t p.reach wr)
       case atStart => exact ⟨2000, gv1, hv1, ⟨HX1.out⟩, hR, hI, hZ, hB3⟩
       case round =>
        obtain ⟨k, gv2, hv2, hX2, hR2, hI2, hZ2, hB4⟩ := hrel
        cases k with
        | zero =>
         have := hX2.out
         cases this
        | succ k =>
         have HX3 : Hid ((if (t : Int) ≠ p.team ∧ p.reach < hv2.getD (t : Int).toNat 0 then (passF p.op p.team p.reach 6 (seen0, gv2, hv2) t).bind fun x => if x.1 = true then settleT p.op p.team p.reach t k x.2.2.1 x.2.2.2 else some (false, x.2.2) else some (true, gv2, hv2)).bind (contT p.op p.team p.reach (6 - (t + 1)) t) = some (r, gv, hv)) := hX2.out
         clear hX2
         have d0 : wr.cell? ⟨b, 0, none⟩ = some (.int .i64 p.team) := hR2.out.hr.c0
         have d1 : wr.cell? ⟨b, 1, none⟩ = some (.int .i64 p.reach) := hR2.out.hr.c1
         have dh : wr.cell? ⟨bh, t, none⟩ = some (.int .i64 (hv2.getD t 0)) := hR2.out.hh.cell t (by rw [hR2.out.hl]; exact hlt3)
         have HMW := Lib.hid (moreW_eq hR2.out t hlt3 p.reach)
         obtain ⟨ht, hht⟩ : ∃ v, hv2.getD t 0 = v := ⟨_, rfl⟩
         have HHT := Lib.hid hht
         rw [hht] at dh
         clear hht
         by_cases c1 : (t : Int) = p.team
         ·
          have b1 : ((t : Int) != p.team) = false := bne_eq_false_iff_eq.2 c1
          have HX4 : Hid (settleA p.op p.team p.reach (6 - (t + 1)) (t + 1) gv2 hv2 = some (r, gv, hv)) := by
           have := HX3.out
           rw [if_neg (fun h => h.1 c1)] at this
           exact this
          clear c1
          go_upto_region 22 with fail
          go_quiet (fail)
          go_wp2
          go_roundw
          case rel => exact ⟨t + 1, gv2, hv2, by omega, by simp, ⟨HX4.out⟩, ⟨hR2.out.below (pw_below_drewN (Below.refl _ _) _)⟩, hI2, ⟨Nat.le_trans hZ2.out (pw_below_drewN (Below.refl wr.heap.size wr) _).size⟩, ⟨pw_below_drewN hB4.out _⟩⟩
          case measure => simp [intOf]; omega
         ·
          have b1 : ((t : Int) != p.team) = true := bne_iff_ne.2 c1
          have HC1 := Lib.hid c1
          clear c1
          by_cases c2 : p.reach < ht
          ·
           have b2 : decide (ht > p.reach) = true := decide_eq_true c2
           have HC2 := Lib.hid c2
           clear c2
           go_upto_region 22 with fail
           have HTN : Hid ((t : Int) < p.n) := HBG.out (t : Int) (by omega) (by omega) hv2 gv2 hI2.out (by rw [Int.toNat_natCast, HHT.out]; exact HC2.out)
           obtain ⟨r1, s', hpass, hpost, _⟩ := pass_ok HPP.out 6 (seen0, gv2, hv2) (t : Int) rfl (by show seen0.count false ≤ 6; decide) (by omega) HTN.out HC1.out (not_seen0 _) hI2.out
           have HPASS := Lib.hid hpass
           have HPOST := Lib.hid hpost
           have HX5 : Hid ((if r1 = true then settleT p.op p.team p.reach t k s'.2.1 s'.2.2 else some (false, s'.2)).bind (contT p.op p.team p.reach (6 - (t + 1)) t) = some (r, gv, hv)) := by
            have := HX3.out
            rw [if_pos ⟨HC1.out, by rw [Int.toNat_natCast, HHT.out]; exact HC2.out⟩, hpass, Option.bind_some] at this
            exact this
           clear hpass hpost HX3
           go_quiet (fail)
           go_upto_region 23 with fail
           have HD : Aside0 (Below wr.heap.size wr (wr.drewN nq)) := ⟨pw_below_drewN (Below.refl _ _) _⟩
           obtain ⟨W5, hW5⟩ : ∃ W, W = wr.drewN nq := ⟨_, rfl⟩
           rw [← hW5] at HD ⊢
           have HRD : Aside0 (RunW (runsRB p bg bh b Ao co) W5 gv2 hv2) := ⟨hR2.out.below HD.out⟩
           have HND : Aside0 ((runsRB p bg bh b Ao co).N W5.heap.size) := ⟨⟨HNN.out.e, ⟨Nat.lt_of_lt_of_le HNN.out.lt.1 (Nat.le_trans hZ2.out HD.out.size), Nat.lt_of_lt_of_le HNN.out.lt.2.1 (Nat.le_trans hZ2.out HD.out.size), Nat.lt_of_lt_of_le HNN.out.lt.2.2 (Nat.le_trans hZ2.out HD.out.size)⟩, fun ad e => ⟨Nat.lt_of_lt_of_le (HNN.out.ea ad e).1 (Nat.le_trans hZ2.out HD.out.size), (HNN.out.ea ad e).2⟩⟩⟩
           have HC := Lib.hid (shift_calls (runsRB p bg bh b Ao co) W5 HND.out (ok_sound HPP.out) hol 6 gv2 hv2 (t : Int) (by omega) (by omega) r1 s' HPASS.out HRD.out)
           clear hW5 d0 d1 dh b1 b2
           cases r1 with
           | true =>
            go_wp2_with (go_at_call 106; (with_reducible refine Calls.mono HC.out ?_); rintro e w5 ⟨rfl, hr5, hf5⟩; have HR5 := Aside0.mk hr5; have HF5 := Aside0.mk hf5; clear hr5 hf5)
            obtain ⟨y1, ⟨e, e0, en, et, eu, er, y2⟩, _⟩ := HPOST.out.yes rfl
            have y3 := y2 (t : Int) (by omega) (by omega)
            have hte : ¬ (t : Int) = e := by
             intro h
             subst h
             have := HHT.out
             have := HC2.out
             simp only [Int.toNat_natCast] at er
             omega
            rw [if_pos rfl, if_neg hte] at y3
            simp only [Int.toNat_natCast] at y3
            rw [HHT.out] at y3
            have HY3 := Lib.hid y3
            have HY1 := Aside0.mk y1
            clear y1 y2 y3 er eu et en e0 hte
            go_roundw
            case rel =>
             refine ⟨k, s'.2.1, s'.2.2, ⟨HX5.out⟩, HR5, HY1, ⟨Nat.le_trans hZ2.out (Nat.le_trans HD.out.size HF5.out.size)⟩, ⟨(hB4.out.trans (HD.out.mono (Nat.le_trans HSB.out hZ2.out))).trans (HF5.out.toBelow hBg hBh (Nat.le_trans HSB.out (Nat.le_trans hZ2.out HD.out.size)))⟩⟩
            case measure =>
             have h1 := moreW_eq HR5.out t hlt3 p.reach
             have h2 := HMW.out
             rw [HHT.out] at h2
             rw [HY3.out] at h1
             show moreW bh t p.reach _ < moreW bh t p.reach wr
             rw [show moreW bh t p.reach _ = _ from h1, show moreW bh t p.reach wr = _ from h2]
             have := HC2.out
             omega
           | false =>
            have HE : Hid (r = false) := by
             have := HX5.out
             rw [if_neg Bool.false_ne_true, Option.bind_some, show contT p.op p.team p.reach (6 - (t + 1)) t (false, s'.2) = some (false, s'.2) from rfl] at this
             injection this with this
             injection this with this
             exact this.symm
            go_wp2_with (go_at_call 106; (with_reducible refine Calls.mono HC.out ?_); rintro e w5 ⟨rfl, hr5, hf5⟩; have HR5 := Aside0.mk hr5; have HF5 := Aside0.mk hf5; clear hr5 hf5)
            refine bodyPost_ret (v := .bool false) (by simp [results, Try.results80, go_sem]) rfl ⟨by rw [HE.out], fun e => (by rw [HE.out] at e; cases e), ?_⟩
            exact (hB4.out.trans (HD.out.mono (Nat.le_trans HSB.out hZ2.out))).trans (HF5.out.toBelow hBg hBh (Nat.le_trans HSB.out (Nat.le_trans hZ2.out HD.out.size)))
          ·
           have b2 : decide (ht > p.reach) = false := decide_eq_false c2
           have HX4 : Hid (settleA p.op p.team p.reach (6 - (t + 1)) (t + 1) gv2 hv2 = some (r, gv, hv)) := by
            have := HX3.out
            rw [if_neg (fun h => c2 (by have := h.2; rw [Int.toNat_natCast, HHT.out] at this; exact this))] at this
            exact this
           clear c2
           go_upto_region 22 with fail
           go_quiet (fail)
           go_wp2
           go_roundw
           case rel => exact ⟨t + 1, gv2, hv2, by omega, by simp, ⟨HX4.out⟩, ⟨hR2.out.below (pw_below_drewN (Below.refl _ _) _)⟩, hI2, ⟨Nat.le_trans hZ2.out (pw_below_drewN (Below.refl wr.heap.size wr) _).size⟩, ⟨pw_below_drewN hB4.out _⟩⟩
           case measure => simp [intOf]; omega
      ·
       obtain rfl : t = 6 := by omega
       have HE : Hid (r = true ∧ gv = gv1) := by
        have := hX.out
        rw [show 6 - 6 = 0 from rfl, show settleA p.op p.team p.reach 0 6 gv1 hv1 = some (true, gv1, hv1) from rfl] at this
        injection this with this
        injection this with h1 h2
        injection h2 with h2 h3
        exact ⟨h1.symm, h2.symm⟩
       clear hX
       go_wp2
       refine bodyPost_ret (v := .bool true) (by simp [results, Try.results80, go_sem]) rfl ⟨by rw [HE.out.1], fun _ => ?_, hB3.out⟩
       rw [HE.out.2]
       have hgl : gv1.length = p.op.length := hR.out.gl
       refine ⟨some ⟨bg, 0, none⟩, p.op.length, by rw [hgl]; exact hR.out.hr, ?_⟩
       refine Kd.C_of_reads (d := 0) ⟨rfl, by omega, fun _ => ⟨_, rfl, fun j hj => ?_⟩⟩
       have hne : p.op ≠ [] := by
        intro e
        rw [hgl, e] at hj
        exact absurd hj (Nat.not_lt_zero _)
       have e : (⟨bg, 0, none⟩ : Addr).add j = ⟨bg, j, none⟩ := by unfold Addr.add; split <;> simp_all
       rw [e, (show GivAt wr bg gv1 from hR.out.hg hne).cell j hj]
end Go.Proofs.Ytmnamkcjldaoeaa.PAll
namespace Go.Proofs.Ytmnamkcjldaoeaa.PAll
open Go.RowKit Go.Proofs.YtmnamkcjldaoeaaW.PrintWords Go.Proofs.YtmnamkcjldaoeaaW.PrintLast Go.Proofs.YtmnamkcjldaoeaaW.PrintMore
attribute [local go_sem] max2_int min2_int max_two min_two max_three min_three max_four min_four   -- for this text's walks alone
set_option linter.unusedVariables false
set_option linter.unusedSimpArgs false
def awakeF (k : Nat)  : Option (Bool) := (kingpinlaw08_played.f).bind fun bt176 => ((league_Rank.f k bt176.1 bt176.2 (([1, 3] : List Int))).bind fun bt183 => ((kingpinlaw08_played.f).bind fun bt187 => ((league_After.f bt187.1 bt187.2 (([3, 2] : List Int))).bind fun bt194 => ((kingpinlaw08_played.f).bind fun bt198 => ((league_Reason.f bt198.1 bt198.2 2).bind fun bt202 => ((league_Build.f 4).bind fun bt206 => (if bt183.2 = 0 then ((kingpinlaw08_ints.f k bt183.1 (([1, 1, 3, 4] : List Int))).bind fun t213 => (if t213 = true then (if bt194.2 = 0 then ((kingpinlaw08_ints.f k bt194.1 (([2, 3, 2, 3] : List Int))).bind fun t217 => (if t217 = true then (if bt202.2 = 0 then ((kingpinlaw08_ints.f k bt202.1 (([0, 1, 3] : List Int))).bind fun t221 => (if t221 = true then (if bt206.2 = 0 then ((league_ProveSchedule.f 4 bt206.1 3).bind fun t222 => (if t222 = true then ((league_ProveSchedule.f 4 bt206.1 2).bind fun t223 => (some (!t223))) else (some false))) else (some false)) else (some false))) else (some false)) else (some false))) else (some false)) else (some false))) else (some false))))))))
set_option maxHeartbeats 8000000 in
set_option maxRecDepth 100000 in
theorem awake_calls (k : Nat) (r : Bool) (w : World) (hr : r = true) (h : awakeF k = some r) :
  Calls Try.prog 16 #[] w fun e w' => e = .returned (.bool r) ∧ Below w.heap.size w w' := by
 have HB := Aside0.mk (Below.refl w.heap.size w)
 have H : ((kingpinlaw08_played.f).bind fun bt176 => ((league_Rank.f k bt176.1 bt176.2 (([1, 3] : List Int))).bind fun bt183 => ((kingpinlaw08_played.f).bind fun bt187 => ((league_After.f bt187.1 bt187.2 (([3, 2] : List Int))).bind fun bt194 => ((kingpinlaw08_played.f).bind fun bt198 => ((league_Reason.f bt198.1 bt198.2 2).bind fun bt202 => ((league_Build.f 4).bind fun bt206 => (if bt183.2 = 0 then ((kingpinlaw08_ints.f k bt183.1 (([1, 1, 3, 4] : List Int))).bind fun t213 => (if t213 = true then (if bt194.2 = 0 then ((kingpinlaw08_ints.f k bt194.1 (([2, 3, 2, 3] : List Int))).bind fun t217 => (if t217 = true then (if bt202.2 = 0 then ((kingpinlaw08_ints.f k bt202.1 (([0, 1, 3] : List Int))).bind fun t221 => (if t221 = true then (if bt206.2 = 0 then ((league_ProveSchedule.f 4 bt206.1 3).bind fun t222 => (if t222 = true then ((league_ProveSchedule.f 4 bt206.1 2).bind fun t223 => (some (!t223))) else (some false))) else (some false)) else (some false))) else (some false)) else (some false))) else (some false)) else (some false))) else (some false))))))))) = some r := h
 clear h
 replace H := Option.bind_eq_some_iff.mp H
 obtain ⟨⟨t176, t177⟩, A10, H⟩ := H
 replace H : ((league_Rank.f k t176 t177 (([1, 3] : List Int))).bind fun bt183 => ((kingpinlaw08_played.f).bind fun bt187 => ((league_After.f bt187.1 bt187.2 (([3, 2] : List Int))).bind fun bt194 => ((kingpinlaw08_played.f).bind fun bt198 => ((league_Reason.f bt198.1 bt198.2 2).bind fun bt202 => ((league_Build.f 4).bind fun bt206 => (if bt183.2 = 0 then ((kingpinlaw08_ints.f k bt183.1 (([1, 1, 3, 4] : List Int))).bind fun t213 => (if t213 = true then (if bt194.2 = 0 then ((kingpinlaw08_ints.f k bt194.1 (([2, 3, 2, 3] : List Int))).bind fun t217 => (if t217 = true then (if bt202.2 = 0 then ((kingpinlaw08_ints.f k bt202.1 (([0, 1, 3] : List Int))).bind fun t221 => (if t221 = true then (if bt206.2 = 0 then ((league_ProveSchedule.f 4 bt206.1 3).bind fun t222 => (if t222 = true then ((league_ProveSchedule.f 4 bt206.1 2).bind fun t223 => (some (!t223))) else (some false))) else (some false)) else (some false))) else (some false)) else (some false))) else (some false)) else (some false))) else (some false)))))))) = some r := H
 have A1 := Aside0.mk A10
 clear A10
 obtain ⟨y180, hy180⟩ : ∃ y_ : List Int, y_ = (([1, 3] : List Int)) := ⟨_, rfl⟩
 replace H : ((league_Rank.f k t176 t177 y180).bind fun bt183 => ((kingpinlaw08_played.f).bind fun bt187 => ((league_After.f bt187.1 bt187.2 (([3, 2] : List Int))).bind fun bt194 => ((kingpinlaw08_played.f).bind fun bt198 => ((league_Reason.f bt198.1 bt198.2 2).bind fun bt202 => ((league_Build.f 4).bind fun bt206 => (if bt183.2 = 0 then ((kingpinlaw08_ints.f k bt183.1 (([1, 1, 3, 4] : List Int))).bind fun t213 => (if t213 = true then (if bt194.2 = 0 then ((kingpinlaw08_ints.f k bt194.1 (([2, 3, 2, 3] : List Int))).bind fun t217 => (if t217 = true then (if bt202.2 = 0 then ((kingpinlaw08_ints.f k bt202.1 (([0, 1, 3] : List Int))).bind fun t221 => (if t221 = true then (if bt206.2 = 0 then ((league_ProveSchedule.f 4 bt206.1 3).bind fun t222 => (if t222 = true then ((league_ProveSchedule.f 4 bt206.1 2).bind fun t223 => (some (!t223))) else (some false))) else (some false)) else (some false))) else (some false)) else (some false))) else (some false)) else (some false))) else (some false)))))))) = some r := by first | (rw [hy180]; with_reducible exact H) | (have H2_ := (Option.bind_some _ _).symm.trans H; rw [hy180]; with_reducible exact H2_) | (have H2_ := (Option.bind_some _ _).symm.trans H; with_reducible exact H2_) | with_reducible exact H | (rw [hy180]; exact H) | exact H
 have Ny180 := Aside0.mk hy180
 clear hy180
 replace H := Option.bind_eq_some_iff.mp H
 obtain ⟨⟨t183, t186⟩, A20, H⟩ := H
 replace H : ((kingpinlaw08_played.f).bind fun bt187 => ((league_After.f bt187.1 bt187.2 (([3, 2] : List Int))).bind fun bt194 => ((kingpinlaw08_played.f).bind fun bt198 => ((league_Reason.f bt198.1 bt198.2 2).bind fun bt202 => ((league_Build.f 4).bind fun bt206 => (if t186 = 0 then ((kingpinlaw08_ints.f k t183 (([1, 1, 3, 4] : List Int))).bind fun t213 => (if t213 = true then (if bt194.2 = 0 then ((kingpinlaw08_ints.f k bt194.1 (([2, 3, 2, 3] : List Int))).bind fun t217 => (if t217 = true then (if bt202.2 = 0 then ((kingpinlaw08_ints.f k bt202.1 (([0, 1, 3] : List Int))).bind fun t221 => (if t221 = true then (if bt206.2 = 0 then ((league_ProveSchedule.f 4 bt206.1 3).bind fun t222 => (if t222 = true then ((league_ProveSchedule.f 4 bt206.1 2).bind fun t223 => (some (!t223))) else (some false))) else (some false)) else (some false))) else (some false)) else (some false))) else (some false)) else (some false))) else (some false))))))) = some r := H
 have A2 := Aside0.mk A20
 clear A20
 replace H := Option.bind_eq_some_iff.mp H
 obtain ⟨⟨t187, t188⟩, A30, H⟩ := H
 replace H : ((league_After.f t187 t188 (([3, 2] : List Int))).bind fun bt194 => ((kingpinlaw08_played.f).bind fun bt198 => ((league_Reason.f bt198.1 bt198.2 2).bind fun bt202 => ((league_Build.f 4).bind fun bt206 => (if t186 = 0 then ((kingpinlaw08_ints.f k t183 (([1, 1, 3, 4] : List Int))).bind fun t213 => (if t213 = true then (if bt194.2 = 0 then ((kingpinlaw08_ints.f k bt194.1 (([2, 3, 2, 3] : List Int))).bind fun t217 => (if t217 = true then (if bt202.2 = 0 then ((kingpinlaw08_ints.f k bt202.1 (([0, 1, 3] : List Int))).bind fun t221 => (if t221 = true then (if bt206.2 = 0 then ((league_ProveSchedule.f 4 bt206.1 3).bind fun t222 => (if t222 = true then ((league_ProveSchedule.f 4 bt206.1 2).bind fun t223 => (some (!t223))) else (some false))) else (some false)) else (some false))) else (some false)) else (some false))) else (some false)) else (some false))) else (some false)))))) = some r := H
 have A3 := Aside0.mk A30
 clear A30
 obtain ⟨y191, hy191⟩ : ∃ y_ : List Int, y_ = (([3, 2] : List Int)) := ⟨_, rfl⟩
 replace H : ((league_After.f t187 t188 y191).bind fun bt194 => ((kingpinlaw08_played.f).bind fun bt198 => ((league_Reason.f bt198.1 bt198.2 2).bind fun bt202 => ((league_Build.f 4).bind fun bt206 => (if t186 = 0 then ((kingpinlaw08_ints.f k t183 (([1, 1, 3, 4] : List Int))).bind fun t213 => (if t213 = true then (if bt194.2 = 0 then ((kingpinlaw08_ints.f k bt194.1 (([2, 3, 2, 3] : List Int))).bind fun t217 => (if t217 = true then (if bt202.2 = 0 then ((kingpinlaw08_ints.f k bt202.1 (([0, 1, 3] : List Int))).bind fun t221 => (if t221 = true then (if bt206.2 = 0 then ((league_ProveSchedule.f 4 bt206.1 3).bind fun t222 => (if t222 = true then ((league_ProveSchedule.f 4 bt206.1 2).bind fun t223 => (some (!t223))) else (some false))) else (some false)) else (some false))) else (some false)) else (some false))) else (some false)) else (some false))) else (some false)))))) = some r := by first | (rw [hy191]; with_reducible exact H) | (have H2_ := (Option.bind_some _ _).symm.trans H; rw [hy191]; with_reducible exact H2_) | (have H2_ := (Option.bind_some _ _).symm.trans H; with_reducible exact H2_) | with_reducible exact H | (rw [hy191]; exact H) | exact H
 have Ny191 := Aside0.mk hy191
 clear hy191
 replace H := Option.bind_eq_some_iff.mp H
 obtain ⟨⟨t194, t197⟩, A40, H⟩ := H
 replace H : ((kingpinlaw08_played.f).bind fun bt198 => ((league_Reason.f bt198.1 bt198.2 2).bind fun bt202 => ((league_Build.f 4).bind fun bt206 => (if t186 = 0 then ((kingpinlaw08_ints.f k t183 (([1, 1, 3, 4] : List Int))).bind fun t213 => (if t213 = true then (if t197 = 0 then ((kingpinlaw08_ints.f k t194 (([2, 3, 2, 3] : List Int))).bind fun t217 => (if t217 = true then (if bt202.2 = 0 then ((kingpinlaw08_ints.f k bt202.1 (([0, 1, 3] : List Int))).bind fun t221 => (if t221 = true then (if bt206.2 = 0 then ((league_ProveSchedule.f 4 bt206.1 3).bind fun t222 => (if t222 = true then ((league_ProveSchedule.f 4 bt206.1 2).bind fun t223 => (some (!t223))) else (some false))) else (some false)) else (some false))) else (some false)) else (some false))) else (some false)) else (some false))) else (some false))))) = some r := H
 have A4 := Aside0.mk A40
 clear A40
 replace H := Option.bind_eq_some_iff.mp H
 obtain ⟨⟨t198, t199⟩, A50, H⟩ := H
 replace H : ((league_Reason.f t198 t199 2).bind fun bt202 => ((league_Build.f 4).bind fun bt206 => (if t186 = 0 then ((kingpinlaw08_ints.f k t183 (([1, 1, 3, 4] : List Int))).bind fun t213 => (if t213 = true then (if t197 = 0 then ((kingpinlaw08_ints.f k t194 (([2, 3, 2, 3] : List Int))).bind fun t217 => (if t217 = true then (if bt202.2 = 0 then ((kingpinlaw08_ints.f k bt202.1 (([0, 1, 3] : List Int))).bind fun t221 => (if t221 = true then (if bt206.2 = 0 then ((league_ProveSchedule.f 4 bt206.1 3).bind fun t222 => (if t222 = true then ((league_ProveSchedule.f 4 bt206.1 2).bind fun t223 => (some (!t223))) else (some false))) else (some false)) else (some false))) else (some false)) else (some false))) else (some false)) else (some false))) else (some false)))) = some r := H
 have A5 := Aside0.mk A50
 clear A50
 replace H := Option.bind_eq_some_iff.mp H
 obtain ⟨⟨t202, t205⟩, A60, H⟩ := H
 replace H : ((league_Build.f 4).bind fun bt206 => (if t186 = 0 then ((kingpinlaw08_ints.f k t183 (([1, 1, 3, 4] : List Int))).bind fun t213 => (if t213 = true then (if t197 = 0 then ((kingpinlaw08_ints.f k t194 (([2, 3, 2, 3] : List Int))).bind fun t217 => (if t217 = true then (if t205 = 0 then ((kingpinlaw08_ints.f k t202 (([0, 1, 3] : List Int))).bind fun t221 => (if t221 = true then (if bt206.2 = 0 then ((league_ProveSchedule.f 4 bt206.1 3).bind fun t222 => (if t222 = true then ((league_ProveSchedule.f 4 bt206.1 2).bind fun t223 => (some (!t223))) else (some false))) else (some false)) else (some false))) else (some false)) else (some false))) else (some false)) else (some false))) else (some false))) = some r := H
 have A6 := Aside0.mk A60
 clear A60
 replace H := Option.bind_eq_some_iff.mp H
 obtain ⟨⟨t206, t207⟩, A70, H⟩ := H
 replace H : (if t186 = 0 then ((kingpinlaw08_ints.f k t183 (([1, 1, 3, 4] : List Int))).bind fun t213 => (if t213 = true then (if t197 = 0 then ((kingpinlaw08_ints.f k t194 (([2, 3, 2, 3] : List Int))).bind fun t217 => (if t217 = true then (if t205 = 0 then ((kingpinlaw08_ints.f k t202 (([0, 1, 3] : List Int))).bind fun t221 => (if t221 = true then (if t207 = 0 then ((league_ProveSchedule.f 4 t206 3).bind fun t222 => (if t222 = true then ((league_ProveSchedule.f 4 t206 2).bind fun t223 => (some (!t223))) else (some false))) else (some false)) else (some false))) else (some false)) else (some false))) else (some false)) else (some false))) else (some false)) = some r := H
 have A7 := Aside0.mk A70
 clear A70
 by_cases c8 : t186 = 0
 ·
  rw [if_pos c8] at H
  have c8b0 : (t186 == 0) = true := beq_iff_eq.mpr c8
  have c8b1 : (t186 != 0) = false := bne_eq_false_iff_eq.mpr c8
  clear c8
  obtain ⟨y210, hy210⟩ : ∃ y_ : List Int, y_ = (([1, 1, 3, 4] : List Int)) := ⟨_, rfl⟩
  replace H : ((kingpinlaw08_ints.f k t183 y210).bind fun t213 => (if t213 = true then (if t197 = 0 then ((kingpinlaw08_ints.f k t194 (([2, 3, 2, 3] : List Int))).bind fun t217 => (if t217 = true then (if t205 = 0 then ((kingpinlaw08_ints.f k t202 (([0, 1, 3] : List Int))).bind fun t221 => (if t221 = true then (if t207 = 0 then ((league_ProveSchedule.f 4 t206 3).bind fun t222 => (if t222 = true then ((league_ProveSchedule.f 4 t206 2).bind fun t223 => (some (!t223))) else (some false))) else (some false)) else (some false))) else (some false)) else (some false))) else (some false)) else (some false))) = some r := by first | (rw [hy210]; with_reducible exact H) | (have H2_ := (Option.bind_some _ _).symm.trans H; rw [hy210]; with_reducible exact H2_) | (have H2_ := (Option.bind_some _ _).symm.trans H; with_reducible exact H2_) | with_reducible exact H | (rw [hy210]; exact H) | exact H
  have Ny210 := Aside0.mk hy210
  clear hy210
  replace H := Option.bind_eq_some_iff.mp H
  obtain ⟨t213, A90, H⟩ := H
  replace H : (if t213 = true then (if t197 = 0 then ((kingpinlaw08_ints.f k t194 (([2, 3, 2, 3] : List Int))).bind fun t217 => (if t217 = true then (if t205 = 0 then ((kingpinlaw08_ints.f k t202 (([0, 1, 3] : List Int))).bind fun t221 => (if t221 = true then (if t207 = 0 then ((league_ProveSchedule.f 4 t206 3).bind fun t222 => (if t222 = true then ((league_ProveSchedule.f 4 t206 2).bind fun t223 => (some (!t223))) else (some false))) else (some false)) else (some false))) else (some false)) else (some false))) else (some false)) else (some false)) = some r := H
  have A9 := Aside0.mk A90
  clear A90
  by_cases c10 : t213 = true
  ·
   subst c10
   have H1 : (if t197 = 0 then ((kingpinlaw08_ints.f k t194 (([2, 3, 2, 3] : List Int))).bind fun t217 => (if t217 = true then (if t205 = 0 then ((kingpinlaw08_ints.f k t202 (([0, 1, 3] : List Int))).bind fun t221 => (if t221 = true then (if t207 = 0 then ((league_ProveSchedule.f 4 t206 3).bind fun t222 => (if t222 = true then ((league_ProveSchedule.f 4 t206 2).bind fun t223 => (some (!t223))) else (some false))) else (some false)) else (some false))) else (some false)) else (some false))) else (some false)) = some r := by rw [if_pos rfl] at H; exact H
   clear H
   have H := H1
   clear H1
   by_cases c11 : t197 = 0
   ·
    rw [if_pos c11] at H
    have c11b0 : (t197 == 0) = true := beq_iff_eq.mpr c11
    have c11b1 : (t197 != 0) = false := bne_eq_false_iff_eq.mpr c11
    clear c11
    obtain ⟨y214, hy214⟩ : ∃ y_ : List Int, y_ = (([2, 3, 2, 3] : List Int)) := ⟨_, rfl⟩
    replace H : ((kingpinlaw08_ints.f k t194 y214).bind fun t217 => (if t217 = true then (if t205 = 0 then ((kingpinlaw08_ints.f k t202 (([0, 1, 3] : List Int))).bind fun t221 => (if t221 = true then (if t207 = 0 then ((league_ProveSchedule.f 4 t206 3).bind fun t222 => (if t222 = true then ((league_ProveSchedule.f 4 t206 2).bind fun t223 => (some (!t223))) else (some false))) else (some false)) else (some false))) else (some false)) else (some false))) = some r := by first | (rw [hy214]; with_reducible exact H) | (have H2_ := (Option.bind_some _ _).symm.trans H; rw [hy214]; with_reducible exact H2_) | (have H2_ := (Option.bind_some _ _).symm.trans H; with_reducible exact H2_) | with_reducible exact H | (rw [hy214]; exact H) | exact H
    have Ny214 := Aside0.mk hy214
    clear hy214
    replace H := Option.bind_eq_some_iff.mp H
    obtain ⟨t217, A120, H⟩ := H
    replace H : (if t217 = true then (if t205 = 0 then ((kingpinlaw08_ints.f k t202 (([0, 1, 3] : List Int))).bind fun t221 => (if t221 = true then (if t207 = 0 then ((league_ProveSchedule.f 4 t206 3).bind fun t222 => (if t222 = true then ((league_ProveSchedule.f 4 t206 2).bind fun t223 => (some (!t223))) else (some false))) else (some false)) else (some false))) else (some false)) else (some false)) = some r := H
    have A12 := Aside0.mk A120
    clear A120
    by_cases c13 : t217 = true
    ·
     subst c13
     have H1 : (if t205 = 0 then ((kingpinlaw08_ints.f k t202 (([0, 1, 3] : List Int))).bind fun t221 => (if t221 = true then (if t207 = 0 then ((league_ProveSchedule.f 4 t206 3).bind fun t222 => (if t222 = true then ((league_ProveSchedule.f 4 t206 2).bind fun t223 => (some (!t223))) else (some false))) else (some false)) else (some false))) else (some false)) = some r := by rw [if_pos rfl] at H; exact H
     clear H
     have H := H1
     clear H1
     by_cases c14 : t205 = 0
     ·
      rw [if_pos c14] at H
      have c14b0 : (t205 == 0) = true := beq_iff_eq.mpr c14
      have c14b1 : (t205 != 0) = false := bne_eq_false_iff_eq.mpr c14
      clear c14
      obtain ⟨y218, hy218⟩ : ∃ y_ : List Int, y_ = (([0, 1, 3] : List Int)) := ⟨_, rfl⟩
      replace H : ((kingpinlaw08_ints.f k t202 y218).bind fun t221 => (if t221 = true then (if t207 = 0 then ((league_ProveSchedule.f 4 t206 3).bind fun t222 => (if t222 = true then ((league_ProveSchedule.f 4 t206 2).bind fun t223 => (some (!t223))) else (some false))) else (some false)) else (some false))) = some r := by first | (rw [hy218]; with_reducible exact H) | (have H2_ := (Option.bind_some _ _).symm.trans H; rw [hy218]; with_reducible exact H2_) | (have H2_ := (Option.bind_some _ _).symm.trans H; with_reducible exact H2_) | with_reducible exact H | (rw [hy218]; exact H) | exact H
      have Ny218 := Aside0.mk hy218
      clear hy218
      replace H := Option.bind_eq_some_iff.mp H
      obtain ⟨t221, A150, H⟩ := H
      replace H : (if t221 = true then (if t207 = 0 then ((league_ProveSchedule.f 4 t206 3).bind fun t222 => (if t222 = true then ((league_ProveSchedule.f 4 t206 2).bind fun t223 => (some (!t223))) else (some false))) else (some false)) else (some false)) = some r := H
      have A15 := Aside0.mk A150
      clear A150
      by_cases c16 : t221 = true
      ·
       subst c16
       have H1 : (if t207 = 0 then ((league_ProveSchedule.f 4 t206 3).bind fun t222 => (if t222 = true then ((league_ProveSchedule.f 4 t206 2).bind fun t223 => (some (!t223))) else (some false))) else (some false)) = some r := by rw [if_pos rfl] at H; exact H
       clear H
       have H := H1
       clear H1
       by_cases c17 : t207 = 0
       ·
        rw [if_pos c17] at H
        have c17b0 : (t207 == 0) = true := beq_iff_eq.mpr c17
        have c17b1 : (t207 != 0) = false := bne_eq_false_iff_eq.mpr c17
        clear c17
        replace H := Option.bind_eq_some_iff.mp H
        obtain ⟨t222, A180, H⟩ := H
        replace H : (if t222 = true then ((league_ProveSchedule.f 4 t206 2).bind fun t223 => (some (!t223))) else (some false)) = some r := H
        have A18 := Aside0.mk A180
        clear A180
        by_cases c19 : t222 = true
        ·
         subst c19
         have H1 : ((league_ProveSchedule.f 4 t206 2).bind fun t223 => (some (!t223))) = some r := by rw [if_pos rfl] at H; exact H
         clear H
         have H := H1
         clear H1
         replace H := Option.bind_eq_some_iff.mp H
         obtain ⟨t223, A200, H⟩ := H
         replace H : (some (!t223)) = some r := H
         have A20 := Aside0.mk A200
         clear A200
         obtain rfl := Option.some.inj H
         go_enter Try.func16, Try.ntmps16
         go_wp2_with (first | ((with_reducible refine gate_callee (f := 49) rfl ?_); refine goesL_ (some 10) rfl rfl Try.func49 (by kernel_rfl) rfl #[] rfl (by (try simp only [List.map_toArray, List.map_cons, List.map_nil]); first | done | rfl | (simp only [List.length_drop, List.length_take]; rfl)) ?_; (with_reducible refine (kingpinlaw08_played.calls  t176 t177 _ A1.out).mono ?_); rintro e w21 ⟨v178, rfl, ho0, hb⟩; refine ⟨_, rfl, ?_⟩; have n0_ := Aside0.mk (Kd.R_lower ho0 (below_size (by repeat (first | (with_reducible first | exact HB.out | apply below_alloc | apply pw_below_drewN | apply below_drew1) | exact HB.out)))); have n1_ := Aside0.mk (below_step (by repeat (first | (with_reducible first | exact HB.out | apply below_alloc | apply pw_below_drewN | apply below_drew1) | exact HB.out)) hb); clear HB; have HO179 := n0_; have HB := n1_; clear n0_ n1_; (try clear hb); (try clear hb2); (try clear hk); (try clear hi); (try clear ho0)) | ((with_reducible refine gate_dst (N := 11) rfl ?_); (try (refine gate_guard (by rfl) ?_; dsimp only)); refine Kd.R_lit (Kd.int .u8) _ 5 ?hg (N := 11) ?hd (xs := ([1, 3] : List Int)) (inner := [.int .u8 1, .int .u8 3]) (ok := fun _ => True) (okp := fun _ => True) ?hr ?hp (fun _ hk => hk) trivial (Below.refl _ _) (Nat.le_refl _) (by simp) ?_; (case hd => rfl); (case hg => rfl); (case hr => first | (go_simp; done) | (go_simp; rfl)); (case hp => exact (Reps.one (show Kd.M (Kd.int .u8) _ _ _ 1 [.int .u8 1] from rfl) (Reps.one (show Kd.M (Kd.int .u8) _ _ _ 3 [.int .u8 3] from rfl) (Reps.none _ _)))); intro v181 w22 ho23 hb hg_ hnew_; clear hg_ hnew_; (first | rw [← Ny180.out] at ho23 | (simp only [Int.reduceToNat] at ho23; rw [← Ny180.out] at ho23)); have n0_ := Aside0.mk (Kd.R_below (by (with_reducible repeat (first | apply Kd.R_alloc | apply Kd.R_drewN | apply Kd.R_drew)); exact HO179.out) hb); have n1_ := Aside0.mk (Kd.R_lower ho23 (below_size (by repeat (first | (with_reducible first | exact HB.out | apply below_alloc | apply pw_below_drewN | apply below_drew1) | exact HB.out)))); have n2_ := Aside0.mk (below_step (by repeat (first | (with_reducible first | exact HB.out | apply below_alloc | apply pw_below_drewN | apply below_drew1) | exact HB.out)) hb); clear HO179; clear HB; have HO179 := n0_; have HO182 := n1_; have HB := n2_; clear n0_ n1_ n2_; clear hb ho23; obtain ⟨Ao24, co24, eo24⟩ := Kd.R_slice HO179.out; subst eo24; obtain ⟨Ao25, co25, eo25⟩ := Kd.R_slice HO182.out; subst eo25) | ((with_reducible refine gate_callee (f := 19) rfl ?_); refine goesL_ (some 12) rfl rfl Try.func19 (by kernel_rfl) rfl #[.agg #[.int .i64 t176, .slice Ao24 t177.length co24], .slice Ao25 y180.length co25] rfl (by (try simp only [List.map_toArray, List.map_cons, List.map_nil]); first | done | rfl | (simp only [List.length_drop, List.length_take]; rfl)) ?_; (with_reducible refine (league_Rank.calls k t176 _ _ t177 _ _ y180 t183 t186 _ ?side1 ?side2 ?side3 ?side4 A2.out).mono ?_); (case side1 => repeat (first | exact (Kd.R_reads' HO179.out).2.2 | (with_reducible refine Kd.C_alloc ?_ _) | (with_reducible refine Kd.C_drewN ?_ _) | (with_reducible refine Kd.C_drew ?_))); (case side2 => exact (Kd.R_reads' HO179.out).2.1); (case side3 => repeat (first | exact (Kd.R_reads' HO182.out).2.2 | (with_reducible refine Kd.C_alloc ?_ _) | (with_reducible refine Kd.C_drewN ?_ _) | (with_reducible refine Kd.C_drew ?_))); (case side4 => exact (Kd.R_reads' HO182.out).2.1); rintro e w26 ⟨v184, rfl, ho0, hb⟩; refine ⟨_, rfl, ?_⟩; have n0_ := Aside0.mk (Kd.R_below (by (with_reducible repeat (first | apply Kd.R_alloc | apply Kd.R_drewN | apply Kd.R_drew)); exact HO179.out) hb); have n1_ := Aside0.mk (Kd.R_below (by (with_reducible repeat (first | apply Kd.R_alloc | apply Kd.R_drewN | apply Kd.R_drew)); exact HO182.out) hb); have n2_ := Aside0.mk (Kd.R_lower ho0 (below_size (by repeat (first | (with_reducible first | exact HB.out | apply below_alloc | apply pw_below_drewN | apply below_drew1) | exact HB.out)))); have n3_ := Aside0.mk (below_step (by repeat (first | (with_reducible first | exact HB.out | apply below_alloc | apply pw_below_drewN | apply below_drew1) | exact HB.out)) hb); clear HO179; clear HO182; clear HB; have HO179 := n0_; have HO182 := n1_; have HO185 := n2_; have HB := n3_; clear n0_ n1_ n2_ n3_; (try clear hb); (try clear hb2); (try clear hk); (try clear hi); (try clear ho0)) | ((with_reducible refine gate_callee (f := 49) rfl ?_); refine goesL_ (some 16) rfl rfl Try.func49 (by kernel_rfl) rfl #[] rfl (by (try simp only [List.map_toArray, List.map_cons, List.map_nil]); first | done | rfl | (simp only [List.length_drop, List.length_take]; rfl)) ?_; (with_reducible refine (kingpinlaw08_played.calls  t187 t188 _ A3.out).mono ?_); rintro e w27 ⟨v189, rfl, ho0, hb⟩; refine ⟨_, rfl, ?_⟩; have n0_ := Aside0.mk (Kd.R_elder' (by (with_reducible repeat (first | apply Kd.R_alloc | apply Kd.R_drewN | apply Kd.R_drew)); exact HO179.out) (Kd.R_base ho0) hb); have n1_ := Aside0.mk (Kd.R_below (by (with_reducible repeat (first | apply Kd.R_alloc | apply Kd.R_drewN | apply Kd.R_drew)); exact HO182.out) hb); have n2_ := Aside0.mk (Kd.R_below (by (with_reducible repeat (first | apply Kd.R_alloc | apply Kd.R_drewN | apply Kd.R_drew)); exact HO185.out) hb); have n3_ := Aside0.mk (Kd.R_lower (Kd.R_new' ho0 (Kd.R_lt (by (with_reducible repeat (first | apply Kd.R_alloc | apply Kd.R_drewN | apply Kd.R_drew)); exact HO179.out))) (below_size (by repeat (first | (with_reducible first | exact HB.out | apply below_alloc | apply pw_below_drewN | apply below_drew1) | exact HB.out)))); have n4_ := Aside0.mk (below_step (by repeat (first | (with_reducible first | exact HB.out | apply below_alloc | apply pw_below_drewN | apply below_drew1) | exact HB.out)) hb); clear HO179; clear HO182; clear HO185; clear HB; have HO179 := n0_; have HO182 := n1_; have HO185 := n2_; have HO190 := n3_; have HB := n4_; clear n0_ n1_ n2_ n3_ n4_; (try clear hb); (try clear hb2); (try clear hk); (try clear hi); (try clear ho0)) | ((with_reducible refine gate_dst (N := 17) rfl ?_); (try (refine gate_guard (by rfl) ?_; dsimp only)); refine Kd.R_lit (Kd.int .u8) _ 5 ?hg (N := 17) ?hd (xs := ([3, 2] : List Int)) (inner := [.int .u8 3, .int .u8 2]) (ok := fun _ => True) (okp := fun _ => True) ?hr ?hp (fun _ hk => hk) trivial (Below.refl _ _) (Nat.le_refl _) (by simp) ?_; (case hd => rfl); (case hg => rfl); (case hr => first | (go_simp; done) | (go_simp; rfl)); (case hp => exact (Reps.one (show Kd.M (Kd.int .u8) _ _ _ 3 [.int .u8 3] from rfl) (Reps.one (show Kd.M (Kd.int .u8) _ _ _ 2 [.int .u8 2] from rfl) (Reps.none _ _)))); intro v192 w28 ho29 hb hg_ hnew_; clear hg_ hnew_; (first | rw [← Ny191.out] at ho29 | (simp only [Int.reduceToNat] at ho29; rw [← Ny191.out] at ho29)); have n0_ := Aside0.mk (Kd.R_below (by (with_reducible repeat (first | apply Kd.R_alloc | apply Kd.R_drewN | apply Kd.R_drew)); exact HO179.out) hb); have n1_ := Aside0.mk (Kd.R_elder' (by (with_reducible repeat (first | apply Kd.R_alloc | apply Kd.R_drewN | apply Kd.R_drew)); exact HO182.out) (Kd.R_base ho29) hb); have n2_ := Aside0.mk (Kd.R_below (by (with_reducible repeat (first | apply Kd.R_alloc | apply Kd.R_drewN | apply Kd.R_drew)); exact HO185.out) hb); have n3_ := Aside0.mk (Kd.R_below (by (with_reducible repeat (first | apply Kd.R_alloc | apply Kd.R_drewN | apply Kd.R_drew)); exact HO190.out) hb); have n4_ := Aside0.mk (Kd.R_lower (Kd.R_new' ho29 (Kd.R_lt (by (with_reducible repeat (first | apply Kd.R_alloc | apply Kd.R_drewN | apply Kd.R_drew)); exact HO182.out))) (below_size (by repeat (first | (with_reducible first | exact HB.out | apply below_alloc | apply pw_below_drewN | apply below_drew1) | exact HB.out)))); have n5_ := Aside0.mk (below_step (by repeat (first | (with_reducible first | exact HB.out | apply below_alloc | apply pw_below_drewN | apply below_drew1) | exact HB.out)) hb); clear HO179; clear HO182; clear HO185; clear HO190; clear HB; have HO179 := n0_; have HO182 := n1_; have HO185 := n2_; have HO190 := n3_; have HO193 := n4_; have HB := n5_; clear n0_ n1_ n2_ n3_ n4_ n5_; clear hb ho29; obtain ⟨Ao30, co30, eo30⟩ := Kd.R_slice HO190.out; subst eo30; obtain ⟨Ao31, co31, eo31⟩ := Kd.R_slice HO193.out; subst eo31) | ((with_reducible refine gate_callee (f := 25) rfl ?_); refine goesL_ (some 18) rfl rfl Try.func25 (by kernel_rfl) rfl #[.agg #[.int .i64 t187, .slice Ao30 t188.length co30], .slice Ao31 y191.length co31] rfl (by (try simp only [List.map_toArray, List.map_cons, List.map_nil]); first | done | rfl | (simp only [List.length_drop, List.length_take]; rfl)) ?_; (with_reducible refine (league_After.calls t187 _ _ t188 _ _ y191 t194 t197 _ ?side1 ?side2 ?side3 ?side4 A4.out).mono ?_); (case side1 => repeat (first | exact (Kd.R_reads' HO190.out).2.2 | (with_reducible refine Kd.C_alloc ?_ _) | (with_reducible refine Kd.C_drewN ?_ _) | (with_reducible refine Kd.C_drew ?_))); (case side2 => exact (Kd.R_reads' HO190.out).2.1); (case side3 => repeat (first | exact (Kd.R_reads' HO193.out).2.2 | (with_reducible refine Kd.C_alloc ?_ _) | (with_reducible refine Kd.C_drewN ?_ _) | (with_reducible refine Kd.C_drew ?_))); (case side4 => exact (Kd.R_reads' HO193.out).2.1); rintro e w32 ⟨v195, rfl, ho0, hb⟩; refine ⟨_, rfl, ?_⟩; have n0_ := Aside0.mk (Kd.R_below (by (with_reducible repeat (first | apply Kd.R_alloc | apply Kd.R_drewN | apply Kd.R_drew)); exact HO179.out) hb); have n1_ := Aside0.mk (Kd.R_below (by (with_reducible repeat (first | apply Kd.R_alloc | apply Kd.R_drewN | apply Kd.R_drew)); exact HO182.out) hb); have n2_ := Aside0.mk (Kd.R_elder' (by (with_reducible repeat (first | apply Kd.R_alloc | apply Kd.R_drewN | apply Kd.R_drew)); exact HO185.out) (Kd.R_base ho0) hb); have n3_ := Aside0.mk (Kd.R_below (by (with_reducible repeat (first | apply Kd.R_alloc | apply Kd.R_drewN | apply Kd.R_drew)); exact HO190.out) hb); have n4_ := Aside0.mk (Kd.R_below (by (with_reducible repeat (first | apply Kd.R_alloc | apply Kd.R_drewN | apply Kd.R_drew)); exact HO193.out) hb); have n5_ := Aside0.mk (Kd.R_lower (Kd.R_new' ho0 (Kd.R_lt (by (with_reducible repeat (first | apply Kd.R_alloc | apply Kd.R_drewN | apply Kd.R_drew)); exact HO185.out))) (below_size (by repeat (first | (with_reducible first | exact HB.out | apply below_alloc | apply pw_below_drewN | apply below_drew1) | exact HB.out)))); have n6_ := Aside0.mk (below_step (by repeat (first | (with_reducible first | exact HB.out | apply below_alloc | apply pw_below_drewN | apply below_drew1) | exact HB.out)) hb); clear HO179; clear HO182; clear HO185; clear HO190; clear HO193; clear HB; have HO179 := n0_; have HO182 := n1_; have HO185 := n2_; have HO190 := n3_; have HO193 := n4_; have HO196 := n5_; have HB := n6_; clear n0_ n1_ n2_ n3_ n4_ n5_ n6_; (try clear hb); (try clear hb2); (try clear hk); (try clear hi); (try clear ho0)) | ((with_reducible refine gate_callee (f := 49) rfl ?_); refine goesL_ (some 22) rfl rfl Try.func49 (by kernel_rfl) rfl #[] rfl (by (try simp only [List.map_toArray, List.map_cons, List.map_nil]); first | done | rfl | (simp only [List.length_drop, List.length_take]; rfl)) ?_; (with_reducible refine (kingpinlaw08_played.calls  t198 t199 _ A5.out).mono ?_); rintro e w33 ⟨v200, rfl, ho0, hb⟩; refine ⟨_, rfl, ?_⟩; have n0_ := Aside0.mk (Kd.R_elder' (by (with_reducible repeat (first | apply Kd.R_alloc | apply Kd.R_drewN | apply Kd.R_drew)); exact HO179.out) (Kd.R_base ho0) hb); have n1_ := Aside0.mk (Kd.R_below (by (with_reducible repeat (first | apply Kd.R_alloc | apply Kd.R_drewN | apply Kd.R_drew)); exact HO182.out) hb); have n2_ := Aside0.mk (Kd.R_below (by (with_reducible repeat (first | apply Kd.R_alloc | apply Kd.R_drewN | apply Kd.R_drew)); exact HO185.out) hb); have n3_ := Aside0.mk (Kd.R_elder' (by (with_reducible repeat (first | apply Kd.R_alloc | apply Kd.R_drewN | apply Kd.R_drew)); exact HO190.out) (Kd.R_base ho0) hb); have n4_ := Aside0.mk (Kd.R_below (by (with_reducible repeat (first | apply Kd.R_alloc | apply Kd.R_drewN | apply Kd.R_drew)); exact HO193.out) hb); have n5_ := Aside0.mk (Kd.R_below (by (with_reducible repeat (first | apply Kd.R_alloc | apply Kd.R_drewN | apply Kd.R_drew)); exact HO196.out) hb); have n6_ := Aside0.mk (Kd.R_lower (Kd.R_new' (Kd.R_new' ho0 (Kd.R_lt (by (with_reducible repeat (first | apply Kd.R_alloc | apply Kd.R_drewN | apply Kd.R_drew)); exact HO179.out))) (Kd.R_lt (by (with_reducible repeat (first | apply Kd.R_alloc | apply Kd.R_drewN | apply Kd.R_drew)); exact HO190.out))) (below_size (by repeat (first | (with_reducible first | exact HB.out | apply below_alloc | apply pw_below_drewN | apply below_drew1) | exact HB.out)))); have n7_ := Aside0.mk (below_step (by repeat (first | (with_reducible first | exact HB.out | apply below_alloc | apply pw_below_drewN | apply below_drew1) | exact HB.out)) hb); clear HO179; clear HO182; clear HO185; clear HO190; clear HO193; clear HO196; clear HB; have HO179 := n0_; have HO182 := n1_; have HO185 := n2_; have HO190 := n3_; have HO193 := n4_; have HO196 := n5_; have HO201 := n6_; have HB := n7_; clear n0_ n1_ n2_ n3_ n4_ n5_ n6_ n7_; (try clear hb); (try clear hb2); (try clear hk); (try clear hi); (try clear ho0); obtain ⟨Ao34, co34, eo34⟩ := Kd.R_slice HO201.out; subst eo34) | ((with_reducible refine gate_callee (f := 37) rfl ?_); refine goesL_ (some 23) rfl rfl Try.func37 (by kernel_rfl) rfl #[.agg #[.int .i64 t198, .slice Ao34 t199.length co34], .int .i64 2] rfl (by (try simp only [List.map_toArray, List.map_cons, List.map_nil]); first | done | rfl | (simp only [List.length_drop, List.length_take]; rfl)) ?_; (with_reducible refine (league_Reason.calls t198 _ _ t199 2 t202 t205 _ ?side1 ?side2 A6.out).mono ?_); (case side1 => repeat (first | exact (Kd.R_reads' HO201.out).2.2 | (with_reducible refine Kd.C_alloc ?_ _) | (with_reducible refine Kd.C_drewN ?_ _) | (with_reducible refine Kd.C_drew ?_))); (case side2 => exact (Kd.R_reads' HO201.out).2.1); rintro e w35 ⟨v203, rfl, ho0, hb⟩; refine ⟨_, rfl, ?_⟩; have n0_ := Aside0.mk (Kd.R_below (by (with_reducible repeat (first | apply Kd.R_alloc | apply Kd.R_drewN | apply Kd.R_drew)); exact HO179.out) hb); have n1_ := Aside0.mk (Kd.R_below (by (with_reducible repeat (first | apply Kd.R_alloc | apply Kd.R_drewN | apply Kd.R_drew)); exact HO182.out) hb); have n2_ := Aside0.mk (Kd.R_elder' (by (with_reducible repeat (first | apply Kd.R_alloc | apply Kd.R_drewN | apply Kd.R_drew)); exact HO185.out) (Kd.R_base ho0) hb); have n3_ := Aside0.mk (Kd.R_below (by (with_reducible repeat (first | apply Kd.R_alloc | apply Kd.R_drewN | apply Kd.R_drew)); exact HO190.out) hb); have n4_ := Aside0.mk (Kd.R_below (by (with_reducible repeat (first | apply Kd.R_alloc | apply Kd.R_drewN | apply Kd.R_drew)); exact HO193.out) hb); have n5_ := Aside0.mk (Kd.R_elder' (by (with_reducible repeat (first | apply Kd.R_alloc | apply Kd.R_drewN | apply Kd.R_drew)); exact HO196.out) (Kd.R_base ho0) hb); have n6_ := Aside0.mk (Kd.R_below (by (with_reducible repeat (first | apply Kd.R_alloc | apply Kd.R_drewN | apply Kd.R_drew)); exact HO201.out) hb); have n7_ := Aside0.mk (Kd.R_lower (Kd.R_new' (Kd.R_new' ho0 (Kd.R_lt (by (with_reducible repeat (first | apply Kd.R_alloc | apply Kd.R_drewN | apply Kd.R_drew)); exact HO185.out))) (Kd.R_lt (by (with_reducible repeat (first | apply Kd.R_alloc | apply Kd.R_drewN | apply Kd.R_drew)); exact HO196.out))) (below_size (by repeat (first | (with_reducible first | exact HB.out | apply below_alloc | apply pw_below_drewN | apply below_drew1) | exact HB.out)))); have n8_ := Aside0.mk (below_step (by repeat (first | (with_reducible first | exact HB.out | apply below_alloc | apply pw_below_drewN | apply below_drew1) | exact HB.out)) hb); clear HO179; clear HO182; clear HO185; clear HO190; clear HO193; clear HO196; clear HO201; clear HB; have HO179 := n0_; have HO182 := n1_; have HO185 := n2_; have HO190 := n3_; have HO193 := n4_; have HO196 := n5_; have HO201 := n6_; have HO204 := n7_; have HB := n8_; clear n0_ n1_ n2_ n3_ n4_ n5_ n6_ n7_ n8_; (try clear hb); (try clear hb2); (try clear hk); (try clear hi); (try clear ho0)) | ((with_reducible refine gate_callee (f := 29) rfl ?_); refine goesL_ (some 27) rfl rfl Try.func29 (by kernel_rfl) rfl #[.int .i64 4] rfl (by (try simp only [List.map_toArray, List.map_cons, List.map_nil]); first | done | rfl | (simp only [List.length_drop, List.length_take]; rfl)) ?_; (with_reducible refine (league_Build.calls 4 t206 t207 _ A7.out).mono ?_); rintro e w36 ⟨v208, rfl, ho0, hb⟩; refine ⟨_, rfl, ?_⟩; have n0_ := Aside0.mk (Kd.R_below (by (with_reducible repeat (first | apply Kd.R_alloc | apply Kd.R_drewN | apply Kd.R_drew)); exact HO179.out) hb); have n1_ := Aside0.mk (Kd.R_below (by (with_reducible repeat (first | apply Kd.R_alloc | apply Kd.R_drewN | apply Kd.R_drew)); exact HO182.out) hb); have n2_ := Aside0.mk (Kd.R_below (by (with_reducible repeat (first | apply Kd.R_alloc | apply Kd.R_drewN | apply Kd.R_drew)); exact HO185.out) hb); have n3_ := Aside0.mk (Kd.R_below (by (with_reducible repeat (first | apply Kd.R_alloc | apply Kd.R_drewN | apply Kd.R_drew)); exact HO190.out) hb); have n4_ := Aside0.mk (Kd.R_below (by (with_reducible repeat (first | apply Kd.R_alloc | apply Kd.R_drewN | apply Kd.R_drew)); exact HO193.out) hb); have n5_ := Aside0.mk (Kd.R_below (by (with_reducible repeat (first | apply Kd.R_alloc | apply Kd.R_drewN | apply Kd.R_drew)); exact HO196.out) hb); have n6_ := Aside0.mk (Kd.R_below (by (with_reducible repeat (first | apply Kd.R_alloc | apply Kd.R_drewN | apply Kd.R_drew)); exact HO201.out) hb); have n7_ := Aside0.mk (Kd.R_below (by (with_reducible repeat (first | apply Kd.R_alloc | apply Kd.R_drewN | apply Kd.R_drew)); exact HO204.out) hb); have n8_ := Aside0.mk (Kd.S_lower ho0 (below_size (by repeat (first | (with_reducible first | exact HB.out | apply below_alloc | apply pw_below_drewN | apply below_drew1) | exact HB.out)))); have n9_ := Aside0.mk (below_step (by repeat (first | (with_reducible first | exact HB.out | apply below_alloc | apply pw_below_drewN | apply below_drew1) | exact HB.out)) hb); clear HO179; clear HO182; clear HO185; clear HO190; clear HO193; clear HO196; clear HO201; clear HO204; clear HB; have HO179 := n0_; have HO182 := n1_; have HO185 := n2_; have HO190 := n3_; have HO193 := n4_; have HO196 := n5_; have HO201 := n6_; have HO204 := n7_; have HO209 := n8_; have HB := n9_; clear n0_ n1_ n2_ n3_ n4_ n5_ n6_ n7_ n8_ n9_; (try clear hb); (try clear hb2); (try clear hk); (try clear hi); (try clear ho0)) | ((with_reducible refine gate_dst (N := 34) rfl ?_); (try (refine gate_guard (by rfl) ?_; dsimp only)); refine Kd.R_lit (Kd.int .i64) _ 3 ?hg (N := 34) ?hd (xs := ([1, 1, 3, 4] : List Int)) (inner := [.int .i64 1, .int .i64 1, .int .i64 3, .int .i64 4]) (ok := fun _ => True) (okp := fun _ => True) ?hr ?hp (fun _ hk => hk) trivial (Below.refl _ _) (Nat.le_refl _) (by simp) ?_; (case hd => rfl); (case hg => rfl); (case hr => first | (go_simp; done) | (go_simp; rfl)); (case hp => exact (Reps.one (show Kd.M (Kd.int .i64) _ _ _ 1 [.int .i64 1] from rfl) (Reps.one (show Kd.M (Kd.int .i64) _ _ _ 1 [.int .i64 1] from rfl) (Reps.one (show Kd.M (Kd.int .i64) _ _ _ 3 [.int .i64 3] from rfl) (Reps.one (show Kd.M (Kd.int .i64) _ _ _ 4 [.int .i64 4] from rfl) (Reps.none _ _)))))); intro v211 w37 ho38 hb hg_ hnew_; clear hg_ hnew_; (first | rw [← Ny210.out] at ho38 | (simp only [Int.reduceToNat] at ho38; rw [← Ny210.out] at ho38)); have n0_ := Aside0.mk (Kd.R_below (by (with_reducible repeat (first | apply Kd.R_alloc | apply Kd.R_drewN | apply Kd.R_drew)); exact HO179.out) hb); have n1_ := Aside0.mk (Kd.R_below (by (with_reducible repeat (first | apply Kd.R_alloc | apply Kd.R_drewN | apply Kd.R_drew)); exact HO182.out) hb); have n2_ := Aside0.mk (Kd.R_elder' (by (with_reducible repeat (first | apply Kd.R_alloc | apply Kd.R_drewN | apply Kd.R_drew)); exact HO185.out) (Kd.R_base ho38) hb); have n3_ := Aside0.mk (Kd.R_below (by (with_reducible repeat (first | apply Kd.R_alloc | apply Kd.R_drewN | apply Kd.R_drew)); exact HO190.out) hb); have n4_ := Aside0.mk (Kd.R_below (by (with_reducible repeat (first | apply Kd.R_alloc | apply Kd.R_drewN | apply Kd.R_drew)); exact HO193.out) hb); have n5_ := Aside0.mk (Kd.R_elder' (by (with_reducible repeat (first | apply Kd.R_alloc | apply Kd.R_drewN | apply Kd.R_drew)); exact HO196.out) (Kd.R_base ho38) hb); have n6_ := Aside0.mk (Kd.R_below (by (with_reducible repeat (first | apply Kd.R_alloc | apply Kd.R_drewN | apply Kd.R_drew)); exact HO201.out) hb); have n7_ := Aside0.mk (Kd.R_elder' (by (with_reducible repeat (first | apply Kd.R_alloc | apply Kd.R_drewN | apply Kd.R_drew)); exact HO204.out) (Kd.R_base ho38) hb); have n8_ := Aside0.mk (Kd.S_below (by (with_reducible repeat (first | apply Kd.S_alloc | apply Kd.S_drewN | apply Kd.S_drew)); exact HO209.out) hb); have n9_ := Aside0.mk (Kd.R_lower (Kd.R_new' (Kd.R_new' (Kd.R_new' ho38 (Kd.R_lt (by (with_reducible repeat (first | apply Kd.R_alloc | apply Kd.R_drewN | apply Kd.R_drew)); exact HO185.out))) (Kd.R_lt (by (with_reducible repeat (first | apply Kd.R_alloc | apply Kd.R_drewN | apply Kd.R_drew)); exact HO196.out))) (Kd.R_lt (by (with_reducible repeat (first | apply Kd.R_alloc | apply Kd.R_drewN | apply Kd.R_drew)); exact HO204.out))) (below_size (by repeat (first | (with_reducible first | exact HB.out | apply below_alloc | apply pw_below_drewN | apply below_drew1) | exact HB.out)))); have n10_ := Aside0.mk (below_step (by repeat (first | (with_reducible first | exact HB.out | apply below_alloc | apply pw_below_drewN | apply below_drew1) | exact HB.out)) hb); clear HO179; clear HO182; clear HO185; clear HO190; clear HO193; clear HO196; clear HO201; clear HO204; clear HO209; clear HB; have HO179 := n0_; have HO182 := n1_; have HO185 := n2_; have HO190 := n3_; have HO193 := n4_; have HO196 := n5_; have HO201 := n6_; have HO204 := n7_; have HO209 := n8_; have HO212 := n9_; have HB := n10_; clear n0_ n1_ n2_ n3_ n4_ n5_ n6_ n7_ n8_ n9_ n10_; clear hb ho38; obtain ⟨Ao39, co39, eo39⟩ := Kd.R_slice HO185.out; subst eo39; obtain ⟨Ao40, co40, eo40⟩ := Kd.R_slice HO212.out; subst eo40) | (go_at_call 23; (with_reducible refine (kingpinlaw08_ints.calls k _ _ t183 _ _ y210 true _ ?side1 ?side2 ?side3 ?side4 A9.out).mono ?_); (case side1 => repeat (first | exact (Kd.R_reads' HO185.out).2.2 | (with_reducible refine Kd.C_alloc ?_ _) | (with_reducible refine Kd.C_drewN ?_ _) | (with_reducible refine Kd.C_drew ?_))); (case side2 => exact (Kd.R_reads' HO185.out).2.1); (case side3 => repeat (first | exact (Kd.R_reads' HO212.out).2.2 | (with_reducible refine Kd.C_alloc ?_ _) | (with_reducible refine Kd.C_drewN ?_ _) | (with_reducible refine Kd.C_drew ?_))); (case side4 => exact (Kd.R_reads' HO212.out).2.1); rintro e w' ⟨rfl, ⟨nd, rfl⟩⟩) | ((with_reducible refine gate_dst (N := 43) rfl ?_); (try (refine gate_guard (by rfl) ?_; dsimp only)); refine Kd.R_lit (Kd.int .i64) _ 3 ?hg (N := 43) ?hd (xs := ([2, 3, 2, 3] : List Int)) (inner := [.int .i64 2, .int .i64 3, .int .i64 2, .int .i64 3]) (ok := fun _ => True) (okp := fun _ => True) ?hr ?hp (fun _ hk => hk) trivial (Below.refl _ _) (Nat.le_refl _) (by simp) ?_; (case hd => rfl); (case hg => rfl); (case hr => first | (go_simp; done) | (go_simp; rfl)); (case hp => exact (Reps.one (show Kd.M (Kd.int .i64) _ _ _ 2 [.int .i64 2] from rfl) (Reps.one (show Kd.M (Kd.int .i64) _ _ _ 3 [.int .i64 3] from rfl) (Reps.one (show Kd.M (Kd.int .i64) _ _ _ 2 [.int .i64 2] from rfl) (Reps.one (show Kd.M (Kd.int .i64) _ _ _ 3 [.int .i64 3] from rfl) (Reps.none _ _)))))); intro v215 w41 ho42 hb hg_ hnew_; clear hg_ hnew_; (first | rw [← Ny214.out] at ho42 | (simp only [Int.reduceToNat] at ho42; rw [← Ny214.out] at ho42)); have n0_ := Aside0.mk (Kd.R_below (by (with_reducible repeat (first | apply Kd.R_alloc | apply Kd.R_drewN | apply Kd.R_drew)); exact HO179.out) hb); have n1_ := Aside0.mk (Kd.R_below (by (with_reducible repeat (first | apply Kd.R_alloc | apply Kd.R_drewN | apply Kd.R_drew)); exact HO182.out) hb); have n2_ := Aside0.mk (Kd.R_elder' (by (with_reducible repeat (first | apply Kd.R_alloc | apply Kd.R_drewN | apply Kd.R_drew)); exact HO185.out) (Kd.R_base ho42) hb); have n3_ := Aside0.mk (Kd.R_below (by (with_reducible repeat (first | apply Kd.R_alloc | apply Kd.R_drewN | apply Kd.R_drew)); exact HO190.out) hb); have n4_ := Aside0.mk (Kd.R_below (by (with_reducible repeat (first | apply Kd.R_alloc | apply Kd.R_drewN | apply Kd.R_drew)); exact HO193.out) hb); have n5_ := Aside0.mk (Kd.R_elder' (by (with_reducible repeat (first | apply Kd.R_alloc | apply Kd.R_drewN | apply Kd.R_drew)); exact HO196.out) (Kd.R_base ho42) hb); have n6_ := Aside0.mk (Kd.R_below (by (with_reducible repeat (first | apply Kd.R_alloc | apply Kd.R_drewN | apply Kd.R_drew)); exact HO201.out) hb); have n7_ := Aside0.mk (Kd.R_elder' (by (with_reducible repeat (first | apply Kd.R_alloc | apply Kd.R_drewN | apply Kd.R_drew)); exact HO204.out) (Kd.R_base ho42) hb); have n8_ := Aside0.mk (Kd.S_below (by (with_reducible repeat (first | apply Kd.S_alloc | apply Kd.S_drewN | apply Kd.S_drew)); exact HO209.out) hb); have n9_ := Aside0.mk (Kd.R_elder' (by (with_reducible repeat (first | apply Kd.R_alloc | apply Kd.R_drewN | apply Kd.R_drew)); exact HO212.out) (Kd.R_base ho42) hb); have n10_ := Aside0.mk (Kd.R_lower (Kd.R_new' (Kd.R_new' (Kd.R_new' (Kd.R_new' ho42 (Kd.R_lt (by (with_reducible repeat (first | apply Kd.R_alloc | apply Kd.R_drewN | apply Kd.R_drew)); exact HO185.out))) (Kd.R_lt (by (with_reducible repeat (first | apply Kd.R_alloc | apply Kd.R_drewN | apply Kd.R_drew)); exact HO196.out))) (Kd.R_lt (by (with_reducible repeat (first | apply Kd.R_alloc | apply Kd.R_drewN | apply Kd.R_drew)); exact HO204.out))) (Kd.R_lt (by (with_reducible repeat (first | apply Kd.R_alloc | apply Kd.R_drewN | apply Kd.R_drew)); exact HO212.out))) (below_size (by repeat (first | (with_reducible first | exact HB.out | apply below_alloc | apply pw_below_drewN | apply below_drew1) | exact HB.out)))); have n11_ := Aside0.mk (below_step (by repeat (first | (with_reducible first | exact HB.out | apply below_alloc | apply pw_below_drewN | apply below_drew1) | exact HB.out)) hb); clear HO179; clear HO182; clear HO185; clear HO190; clear HO193; clear HO196; clear HO201; clear HO204; clear HO209; clear HO212; clear HB; have HO179 := n0_; have HO182 := n1_; have HO185 := n2_; have HO190 := n3_; have HO193 := n4_; have HO196 := n5_; have HO201 := n6_; have HO204 := n7_; have HO209 := n8_; have HO212 := n9_; have HO216 := n10_; have HB := n11_; clear n0_ n1_ n2_ n3_ n4_ n5_ n6_ n7_ n8_ n9_ n10_ n11_; clear hb ho42; obtain ⟨Ao43, co43, eo43⟩ := Kd.R_slice HO196.out; subst eo43; obtain ⟨Ao44, co44, eo44⟩ := Kd.R_slice HO216.out; subst eo44) | (go_at_call 23; (with_reducible refine (kingpinlaw08_ints.calls k _ _ t194 _ _ y214 true _ ?side1 ?side2 ?side3 ?side4 A12.out).mono ?_); (case side1 => repeat (first | exact (Kd.R_reads' HO196.out).2.2 | (with_reducible refine Kd.C_alloc ?_ _) | (with_reducible refine Kd.C_drewN ?_ _) | (with_reducible refine Kd.C_drew ?_))); (case side2 => exact (Kd.R_reads' HO196.out).2.1); (case side3 => repeat (first | exact (Kd.R_reads' HO216.out).2.2 | (with_reducible refine Kd.C_alloc ?_ _) | (with_reducible refine Kd.C_drewN ?_ _) | (with_reducible refine Kd.C_drew ?_))); (case side4 => exact (Kd.R_reads' HO216.out).2.1); rintro e w' ⟨rfl, ⟨nd, rfl⟩⟩) | ((with_reducible refine gate_dst (N := 52) rfl ?_); (try (refine gate_guard (by rfl) ?_; dsimp only)); refine Kd.R_lit (Kd.int .i64) _ 3 ?hg (N := 52) ?hd (xs := ([0, 1, 3] : List Int)) (inner := [.int .i64 0, .int .i64 1, .int .i64 3]) (ok := fun _ => True) (okp := fun _ => True) ?hr ?hp (fun _ hk => hk) trivial (Below.refl _ _) (Nat.le_refl _) (by simp) ?_; (case hd => rfl); (case hg => rfl); (case hr => first | (go_simp; done) | (go_simp; rfl)); (case hp => exact (Reps.one (show Kd.M (Kd.int .i64) _ _ _ 0 [.int .i64 0] from rfl) (Reps.one (show Kd.M (Kd.int .i64) _ _ _ 1 [.int .i64 1] from rfl) (Reps.one (show Kd.M (Kd.int .i64) _ _ _ 3 [.int .i64 3] from rfl) (Reps.none _ _))))); intro v219 w45 ho46 hb hg_ hnew_; clear hg_ hnew_; (first | rw [← Ny218.out] at ho46 | (simp only [Int.reduceToNat] at ho46; rw [← Ny218.out] at ho46)); have n0_ := Aside0.mk (Kd.R_below (by (with_reducible repeat (first | apply Kd.R_alloc | apply Kd.R_drewN | apply Kd.R_drew)); exact HO179.out) hb); have n1_ := Aside0.mk (Kd.R_below (by (with_reducible repeat (first | apply Kd.R_alloc | apply Kd.R_drewN | apply Kd.R_drew)); exact HO182.out) hb); have n2_ := Aside0.mk (Kd.R_elder' (by (with_reducible repeat (first | apply Kd.R_alloc | apply Kd.R_drewN | apply Kd.R_drew)); exact HO185.out) (Kd.R_base ho46) hb); have n3_ := Aside0.mk (Kd.R_below (by (with_reducible repeat (first | apply Kd.R_alloc | apply Kd.R_drewN | apply Kd.R_drew)); exact HO190.out) hb); have n4_ := Aside0.mk (Kd.R_below (by (with_reducible repeat (first | apply Kd.R_alloc | apply Kd.R_drewN | apply Kd.R_drew)); exact HO193.out) hb); have n5_ := Aside0.mk (Kd.R_elder' (by (with_reducible repeat (first | apply Kd.R_alloc | apply Kd.R_drewN | apply Kd.R_drew)); exact HO196.out) (Kd.R_base ho46) hb); have n6_ := Aside0.mk (Kd.R_below (by (with_reducible repeat (first | apply Kd.R_alloc | apply Kd.R_drewN | apply Kd.R_drew)); exact HO201.out) hb); have n7_ := Aside0.mk (Kd.R_elder' (by (with_reducible repeat (first | apply Kd.R_alloc | apply Kd.R_drewN | apply Kd.R_drew)); exact HO204.out) (Kd.R_base ho46) hb); have n8_ := Aside0.mk (Kd.S_below (by (with_reducible repeat (first | apply Kd.S_alloc | apply Kd.S_drewN | apply Kd.S_drew)); exact HO209.out) hb); have n9_ := Aside0.mk (Kd.R_elder' (by (with_reducible repeat (first | apply Kd.R_alloc | apply Kd.R_drewN | apply Kd.R_drew)); exact HO212.out) (Kd.R_base ho46) hb); have n10_ := Aside0.mk (Kd.R_elder' (by (with_reducible repeat (first | apply Kd.R_alloc | apply Kd.R_drewN | apply Kd.R_drew)); exact HO216.out) (Kd.R_base ho46) hb); have n11_ := Aside0.mk (Kd.R_lower (Kd.R_new' (Kd.R_new' (Kd.R_new' (Kd.R_new' (Kd.R_new' ho46 (Kd.R_lt (by (with_reducible repeat (first | apply Kd.R_alloc | apply Kd.R_drewN | apply Kd.R_drew)); exact HO185.out))) (Kd.R_lt (by (with_reducible repeat (first | apply Kd.R_alloc | apply Kd.R_drewN | apply Kd.R_drew)); exact HO196.out))) (Kd.R_lt (by (with_reducible repeat (first | apply Kd.R_alloc | apply Kd.R_drewN | apply Kd.R_drew)); exact HO204.out))) (Kd.R_lt (by (with_reducible repeat (first | apply Kd.R_alloc | apply Kd.R_drewN | apply Kd.R_drew)); exact HO212.out))) (Kd.R_lt (by (with_reducible repeat (first | apply Kd.R_alloc | apply Kd.R_drewN | apply Kd.R_drew)); exact HO216.out))) (below_size (by repeat (first | (with_reducible first | exact HB.out | apply below_alloc | apply pw_below_drewN | apply below_drew1) | exact HB.out)))); have n12_ := Aside0.mk (below_step (by repeat (first | (with_reducible first | exact HB.out | apply below_alloc | apply pw_below_drewN | apply below_drew1) | exact HB.out)) hb); clear HO179; clear HO182; clear HO185; clear HO190; clear HO193; clear HO196; clear HO201; clear HO204; clear HO209; clear HO212; clear HO216; clear HB; have HO179 := n0_; have HO182 := n1_; have HO185 := n2_; have HO190 := n3_; have HO193 := n4_; have HO196 := n5_; have HO201 := n6_; have HO204 := n7_; have HO209 := n8_; have HO212 := n9_; have HO216 := n10_; have HO220 := n11_; have HB := n12_; clear n0_ n1_ n2_ n3_ n4_ n5_ n6_ n7_ n8_ n9_ n10_ n11_ n12_; clear hb ho46; obtain ⟨Ao47, co47, eo47⟩ := Kd.R_slice HO204.out; subst eo47; obtain ⟨Ao48, co48, eo48⟩ := Kd.R_slice HO220.out; subst eo48) | (go_at_call 23; (with_reducible refine (kingpinlaw08_ints.calls k _ _ t202 _ _ y218 true _ ?side1 ?side2 ?side3 ?side4 A15.out).mono ?_); (case side1 => repeat (first | exact (Kd.R_reads' HO204.out).2.2 | (with_reducible refine Kd.C_alloc ?_ _) | (with_reducible refine Kd.C_drewN ?_ _) | (with_reducible refine Kd.C_drew ?_))); (case side2 => exact (Kd.R_reads' HO204.out).2.1); (case side3 => repeat (first | exact (Kd.R_reads' HO220.out).2.2 | (with_reducible refine Kd.C_alloc ?_ _) | (with_reducible refine Kd.C_drewN ?_ _) | (with_reducible refine Kd.C_drew ?_))); (case side4 => exact (Kd.R_reads' HO220.out).2.1); rintro e w' ⟨rfl, ⟨nd, rfl⟩⟩; obtain ⟨Ao49, co49, eo49⟩ := Kd.S_slice HO209.out; subst eo49) | (go_at_call 31; (with_reducible refine (league_ProveSchedule.calls 4 _ _ t206 3 true _ ?side1 ?side2 A18.out).mono ?_); (case side1 => repeat (first | exact (Kd.S_reads' HO209.out).2.2 | (with_reducible refine Kd.C_alloc ?_ _) | (with_reducible refine Kd.C_drewN ?_ _) | (with_reducible refine Kd.C_drew ?_))); (case side2 => exact (Kd.S_reads' HO209.out).2.1); rintro e w50 ⟨rfl, hb⟩; have n0_ := Aside0.mk (Kd.R_below (by (with_reducible repeat (first | apply Kd.R_alloc | apply Kd.R_drewN | apply Kd.R_drew)); exact HO179.out) hb); have n1_ := Aside0.mk (Kd.R_below (by (with_reducible repeat (first | apply Kd.R_alloc | apply Kd.R_drewN | apply Kd.R_drew)); exact HO182.out) hb); have n2_ := Aside0.mk (Kd.R_below (by (with_reducible repeat (first | apply Kd.R_alloc | apply Kd.R_drewN | apply Kd.R_drew)); exact HO185.out) hb); have n3_ := Aside0.mk (Kd.R_below (by (with_reducible repeat (first | apply Kd.R_alloc | apply Kd.R_drewN | apply Kd.R_drew)); exact HO190.out) hb); have n4_ := Aside0.mk (Kd.R_below (by (with_reducible repeat (first | apply Kd.R_alloc | apply Kd.R_drewN | apply Kd.R_drew)); exact HO193.out) hb); have n5_ := Aside0.mk (Kd.R_below (by (with_reducible repeat (first | apply Kd.R_alloc | apply Kd.R_drewN | apply Kd.R_drew)); exact HO196.out) hb); have n6_ := Aside0.mk (Kd.R_below (by (with_reducible repeat (first | apply Kd.R_alloc | apply Kd.R_drewN | apply Kd.R_drew)); exact HO201.out) hb); have n7_ := Aside0.mk (Kd.R_below (by (with_reducible repeat (first | apply Kd.R_alloc | apply Kd.R_drewN | apply Kd.R_drew)); exact HO204.out) hb); have n8_ := Aside0.mk (Kd.S_below (by (with_reducible repeat (first | apply Kd.S_alloc | apply Kd.S_drewN | apply Kd.S_drew)); exact HO209.out) hb); have n9_ := Aside0.mk (Kd.R_below (by (with_reducible repeat (first | apply Kd.R_alloc | apply Kd.R_drewN | apply Kd.R_drew)); exact HO212.out) hb); have n10_ := Aside0.mk (Kd.R_below (by (with_reducible repeat (first | apply Kd.R_alloc | apply Kd.R_drewN | apply Kd.R_drew)); exact HO216.out) hb); have n11_ := Aside0.mk (Kd.R_below (by (with_reducible repeat (first | apply Kd.R_alloc | apply Kd.R_drewN | apply Kd.R_drew)); exact HO220.out) hb); have n12_ := Aside0.mk (below_step (by repeat (first | (with_reducible first | exact HB.out | apply below_alloc | apply pw_below_drewN | apply below_drew1) | exact HB.out)) hb); clear HO179; clear HO182; clear HO185; clear HO190; clear HO193; clear HO196; clear HO201; clear HO204; clear HO209; clear HO212; clear HO216; clear HO220; clear HB; have HO179 := n0_; have HO182 := n1_; have HO185 := n2_; have HO190 := n3_; have HO193 := n4_; have HO196 := n5_; have HO201 := n6_; have HO204 := n7_; have HO209 := n8_; have HO212 := n9_; have HO216 := n10_; have HO220 := n11_; have HB := n12_; clear n0_ n1_ n2_ n3_ n4_ n5_ n6_ n7_ n8_ n9_ n10_ n11_ n12_; (try clear hb); (try clear hb2); (try clear hk); (try clear hi)) | (go_at_call 31; (with_reducible refine (league_ProveSchedule.calls 4 _ _ t206 2 t223 _ ?side1 ?side2 A20.out).mono ?_); (case side1 => repeat (first | exact (Kd.S_reads' HO209.out).2.2 | (with_reducible refine Kd.C_alloc ?_ _) | (with_reducible refine Kd.C_drewN ?_ _) | (with_reducible refine Kd.C_drew ?_))); (case side2 => exact (Kd.S_reads' HO209.out).2.1); rintro e w51 ⟨rfl, hb⟩; have n0_ := Aside0.mk (Kd.R_below (by (with_reducible repeat (first | apply Kd.R_alloc | apply Kd.R_drewN | apply Kd.R_drew)); exact HO179.out) hb); have n1_ := Aside0.mk (Kd.R_below (by (with_reducible repeat (first | apply Kd.R_alloc | apply Kd.R_drewN | apply Kd.R_drew)); exact HO182.out) hb); have n2_ := Aside0.mk (Kd.R_below (by (with_reducible repeat (first | apply Kd.R_alloc | apply Kd.R_drewN | apply Kd.R_drew)); exact HO185.out) hb); have n3_ := Aside0.mk (Kd.R_below (by (with_reducible repeat (first | apply Kd.R_alloc | apply Kd.R_drewN | apply Kd.R_drew)); exact HO190.out) hb); have n4_ := Aside0.mk (Kd.R_below (by (with_reducible repeat (first | apply Kd.R_alloc | apply Kd.R_drewN | apply Kd.R_drew)); exact HO193.out) hb); have n5_ := Aside0.mk (Kd.R_below (by (with_reducible repeat (first | apply Kd.R_alloc | apply Kd.R_drewN | apply Kd.R_drew)); exact HO196.out) hb); have n6_ := Aside0.mk (Kd.R_below (by (with_reducible repeat (first | apply Kd.R_alloc | apply Kd.R_drewN | apply Kd.R_drew)); exact HO201.out) hb); have n7_ := Aside0.mk (Kd.R_below (by (with_reducible repeat (first | apply Kd.R_alloc | apply Kd.R_drewN | apply Kd.R_drew)); exact HO204.out) hb); have n8_ := Aside0.mk (Kd.S_below (by (with_reducible repeat (first | apply Kd.S_alloc | apply Kd.S_drewN | apply Kd.S_drew)); exact HO209.out) hb); have n9_ := Aside0.mk (Kd.R_below (by (with_reducible repeat (first | apply Kd.R_alloc | apply Kd.R_drewN | apply Kd.R_drew)); exact HO212.out) hb); have n10_ := Aside0.mk (Kd.R_below (by (with_reducible repeat (first | apply Kd.R_alloc | apply Kd.R_drewN | apply Kd.R_drew)); exact HO216.out) hb); have n11_ := Aside0.mk (Kd.R_below (by (with_reducible repeat (first | apply Kd.R_alloc | apply Kd.R_drewN | apply Kd.R_drew)); exact HO220.out) hb); have n12_ := Aside0.mk (below_step (by repeat (first | (with_reducible first | exact HB.out | apply below_alloc | apply pw_below_drewN | apply below_drew1) | exact HB.out)) hb); clear HO179; clear HO182; clear HO185; clear HO190; clear HO193; clear HO196; clear HO201; clear HO204; clear HO209; clear HO212; clear HO216; clear HO220; clear HB; have HO179 := n0_; have HO182 := n1_; have HO185 := n2_; have HO190 := n3_; have HO193 := n4_; have HO196 := n5_; have HO201 := n6_; have HO204 := n7_; have HO209 := n8_; have HO212 := n9_; have HO216 := n10_; have HO220 := n11_; have HB := n12_; clear n0_ n1_ n2_ n3_ n4_ n5_ n6_ n7_ n8_ n9_ n10_ n11_ n12_; (try clear hb); (try clear hb2); (try clear hk); (try clear hi)))
         go_ret
         exact ⟨by first | rfl | (simp [errW_none, errW_some] <;> rfl) | (simp [*, errW_none, errW_some] <;> rfl), by repeat (first | (with_reducible first | exact HB.out | apply below_alloc | apply pw_below_drewN | apply below_drew1) | exact HB.out)⟩
        ·
         rw [if_neg c19] at H
         exact absurd (H.trans (congrArg some hr)) (by simp)
       ·
        rw [if_neg c17] at H
        exact absurd (H.trans (congrArg some hr)) (by simp)
      ·
       rw [if_neg c16] at H
       exact absurd (H.trans (congrArg some hr)) (by simp)
     ·
      rw [if_neg c14] at H
      exact absurd (H.trans (congrArg some hr)) (by simp)
    ·
     rw [if_neg c13] at H
     exact absurd (H.trans (congrArg some hr)) (by simp)
   ·
    rw [if_neg c11] at H
    exact absurd (H.trans (congrArg some hr)) (by simp)
  ·
   rw [if_neg c10] at H
   exact absurd (H.trans (congrArg some hr)) (by simp)
 ·
  rw [if_neg c8] at H
  exact absurd (H.trans (congrArg some hr)) (by simp)
set_option maxRecDepth 100000 in
theorem awake_40 : awakeF 40 = some true := by kernel_rfl
def kingpinlaw08_awake.f : Option Bool := some true
theorem kingpinlaw08_awake.calls (r : Bool) (w : World) (h : kingpinlaw08_awake.f = some r) : Calls Try.prog 16 #[] w fun e w' => e = .returned (.bool r) ∧ Below w.heap.size w w' := by
 obtain rfl := Option.some.inj h
 exact awake_calls 40 true w rfl awake_40
end Go.Proofs.Ytmnamkcjldaoeaa.PAll
namespace Go.Proofs.Ytmnamkcjldaoeaa.PAll
open Go.RowKit Go.Proofs.YtmnamkcjldaoeaaW.PrintWords Go.Proofs.YtmnamkcjldaoeaaW.PrintLast Go.Proofs.YtmnamkcjldaoeaaW.PrintMore
set_option linter.unusedVariables false
set_option linter.unusedSimpArgs false
theorem wrapN (n : Nat) (h : n < 4611686018427387904) : wrap64 ((n : Int) + 1) = ((n + 1 : Nat) : Int) := by
 rw [IntWalk.wrap64_in _ ⟨by omega, by omega⟩]
 omega
theorem dropI (l : List Int) (i : Nat) (h : i < l.length) : l.drop i = rd l (i : Int) :: l.drop (i + 1) := by
 rw [List.drop_eq_getElem_cons h]
 congr 1
 unfold rd
 rw [Int.toNat_natCast, List.getD_eq_getElem?_getD, List.getElem?_eq_getElem h, Option.getD_some]
theorem League_ev (a : Int) (l : List S70) (hl : l.length ≤ 1000) : Ev (fun k => kingpinlaw08_League.f k a l) (a, l.map toG) := by
 have main : ∀ (d i : Nat) (acc : List S85), l.length - i = d → i ≤ l.length → acc.length = i → Ev (fun k => kingpinlaw08_League.l0 k (i : Int) a l a acc) (a, acc ++ (l.drop i).map toG) := by
  intro d
  induction d with
  | zero =>
   intro i acc hd hi ha
   obtain rfl : i = l.length := by omega
   refine Ev.step (f := fun _ => some (a, acc)) (fun k => ?_) ?_
   ·
    simp only [kingpinlaw08_League.l0]
    rw [if_neg (by omega)]
   ·
    simpa using Ev.now (a, acc)
  | succ d ih =>
   intro i acc hd hi ha
   refine Ev.step (f := fun k => kingpinlaw08_League.l0 k ((i + 1 : Nat) : Int) a l a (acc ++ [toG (rd_T70 l (i : Int))])) (fun k => ?_) ?_
   ·
    simp only [kingpinlaw08_League.l0]
    rw [if_pos (by omega), if_pos (by omega), if_pos (by omega), wrapN i (by omega)]
    rfl
   ·
    have := ih (i + 1) (acc ++ [toG (rd_T70 l (i : Int))]) (by omega) (by omega) (by simp [ha])
    rw [drop70 l i (by omega), List.map_cons]
    simpa using this
 have := main l.length 0 [] rfl (Nat.zero_le _) rfl
 rw [List.nil_append, List.drop_zero] at this
 exact this
theorem listed_ev (l : List Int) (m : Int) (hl : l.length ≤ 1000000) : Ev (fun k => kingpinlaw08_listed.f k l m) (l.all fun x => decide (1 ≤ x) && decide (x ≤ m)) := by
 have main : ∀ (d i : Nat), l.length - i = d → i ≤ l.length → Ev (fun k => kingpinlaw08_listed.l0 k l m (i : Int)) ((l.drop i).all fun x => decide (1 ≤ x) && decide (x ≤ m)) := by
  intro d
  induction d with
  | zero =>
   intro i hd hi
   obtain rfl : i = l.length := by omega
   refine Ev.step (f := fun _ => some true) (fun k => ?_) ?_
   ·
    simp only [kingpinlaw08_listed.l0]
    rw [if_neg (by omega)]
   ·
    simpa using Ev.now true
  | succ d ih =>
   intro i hd hi
   have ih1 := ih (i + 1) (by omega) (by omega)
   rw [dropI l i (by omega), List.all_cons]
   obtain ⟨x, hx⟩ : ∃ x, rd l (i : Int) = x := ⟨_, rfl⟩
   rw [hx]
   have hbody : ∀ k, kingpinlaw08_listed.l0 (k + 1) l m (i : Int) = if 1 ≤ x ∧ x ≤ m then kingpinlaw08_listed.l0 k l m ((i + 1 : Nat) : Int) else some false := by
    intro k
    simp only [kingpinlaw08_listed.l0]
    rw [if_pos (by omega), if_pos (by omega), wrapN i (by omega), hx]
    by_cases c1 : x < 1
    ·
     rw [if_pos c1, if_neg (by omega)]
    ·
     by_cases c2 : x > m
     ·
      rw [if_neg c1, if_pos c2, if_neg (by omega)]
     ·
      rw [if_neg c1, if_neg c2, if_pos (by omega)]
   refine Ev.step hbody ?_
   by_cases hg : 1 ≤ x ∧ x ≤ m
   ·
    simp only [hg, and_self, if_true, decide_true, Bool.true_and]
    exact ih1
   ·
    have : (decide (1 ≤ x) && decide (x ≤ m)) = false := by simpa using hg
    simp only [hg, if_false, this, Bool.false_and]
    exact Ev.now _
 have := main l.length 0 rfl (Nat.zero_le _)
 exact this
theorem ints_self (l : List Int) (hl : l.length ≤ 1000000) : Ev (fun k => kingpinlaw08_ints.f k l l) true := by
 have main : ∀ (d i : Nat), l.length - i = d → i ≤ l.length → Ev (fun k => kingpinlaw08_ints.l0 k l l (i : Int)) true := by
  intro d
  induction d with
  | zero =>
   intro i hd hi
   obtain rfl : i = l.length := by omega
   refine Ev.step (f := fun _ => some true) (fun k => ?_) (Ev.now _)
   simp only [kingpinlaw08_ints.l0]
   rw [if_neg (by omega)]
  | succ d ih =>
   intro i hd hi
   refine Ev.step (fun k => ?_) (ih (i + 1) (by omega) (by omega))
   simp only [kingpinlaw08_ints.l0]
   rw [if_pos (by omega), if_pos (by omega), if_pos (by omega), if_pos trivial, wrapN i (by omega)]
 unfold kingpinlaw08_ints.f
 refine Ev.congr (fun k => if_pos rfl) (main l.length 0 rfl (Nat.zero_le _))
def stepN (f : Nat) (t : Int) (group : List Int) (s : Int) (g : S85) : Int := (sidesG t g).foldl (fun s p => wrap64 (s + ruleVal f p.2 group)) s
theorem numF_step (f : Nat) (t : Int) (l : List S85) (group : List Int) : numF f (sidesOf t l) group = l.foldl (stepN f t group) 0 := by
 unfold numF sidesOf
 rw [List.foldl_flatMap]
 rfl
theorem sidesG_of (t : Int) (g : S85) (h : g.f0 ≠ g.f1) : sidesG t g = if g.f1 = t then [(g, ⟨g.f0, (givesF g).2, g.f3⟩)] else if g.f0 = t then [(g, ⟨g.f1, (givesF g).1, g.f2⟩)] else [] := by
 unfold sidesG
 by_cases h1 : g.f1 = t
 ·
  rw [if_pos h1, if_pos h1, if_neg (fun h0 => h (h0.trans h1.symm))]
  rfl
 ·
  rw [if_neg h1, if_neg h1, List.append_nil]
theorem ruleFn_1 : ruleFn 1 = 88 := rfl
theorem gives_range (g : S85) : (givesF g).1 ∈ ([0, 1, 2] : List Int) ∧ (givesF g).2 ∈ ([0, 1, 2] : List Int) := by
 unfold givesF
 split
 ·
  simp
 ·
  split
  ·
   simp
  ·
   split <;> simp
theorem ruleVal_range (f : Nat) (g : S85) (n : Int) (hg : gameB n g = true) (q o p : Int) (h : (o = (givesF g).1 ∧ p = g.f2) ∨ (o = (givesF g).2 ∧ p = g.f3)) (group : List Int) : 0 ≤ ruleVal f ⟨q, o, p⟩ group ∧ ruleVal f ⟨q, o, p⟩ group ≤ 3000 := by
 have ho : o = 0 ∨ o = 1 ∨ o = 2 := by
  have := gives_range g
  simp only [List.mem_cons, List.not_mem_nil, or_false] at this
  rcases h with ⟨rfl, _⟩ | ⟨rfl, _⟩
  ·
   exact this.1
  ·
   exact this.2
 have hp : 0 ≤ p ∧ p ≤ 3000 := by
  have := (gameB_iff n g).1 hg
  rcases h with ⟨_, rfl⟩ | ⟨_, rfl⟩
  ·
   exact this.1
  ·
   exact this.2.1
 unfold ruleVal
 split
 ·
  show 0 ≤ o ∧ o ≤ 3000
  omega
 ·
  split
  ·
   show 0 ≤ wrap64 (Int.tdiv o 2) ∧ wrap64 (Int.tdiv o 2) ≤ 3000
   rcases ho with rfl | rfl | rfl <;> (unfold wrap64; decide)
  ·
   split
   ·
    split
    ·
     show 0 ≤ o ∧ o ≤ 3000
     omega
    ·
     omega
   ·
    exact hp
theorem stepN_bound (f : Nat) (t n : Int) (group : List Int) (g : S85) (hg : gameB n g = true) (s B : Int) (h0 : 0 ≤ s) (hB : s ≤ B) (hB2 : B ≤ 1000000000) : 0 ≤ stepN f t group s g ∧ stepN f t group s g ≤ B + 3000 := by
 have hne := ((gameB_iff n g).1 hg).2.2.2.2.1
 unfold stepN
 rw [sidesG_of t g hne]
 split
 ·
  have := ruleVal_range f g n hg g.f0 _ _ (.inr ⟨rfl, rfl⟩) group
  show 0 ≤ wrap64 (s + ruleVal f ⟨g.f0, (givesF g).2, g.f3⟩ group) ∧ wrap64 (s + ruleVal f ⟨g.f0, (givesF g).2, g.f3⟩ group) ≤ B + 3000
  rw [IntWalk.wrap64_in _ ⟨by omega, by omega⟩]
  omega
 ·
  split
  ·
   have := ruleVal_range f g n hg g.f1 _ _ (.inl ⟨rfl, rfl⟩) group
   show 0 ≤ wrap64 (s + ruleVal f ⟨g.f1, (givesF g).1, g.f2⟩ group) ∧ wrap64 (s + ruleVal f ⟨g.f1, (givesF g).1, g.f2⟩ group) ≤ B + 3000
   rw [IntWalk.wrap64_in _ ⟨by omega, by omega⟩]
   omega
  ·
   show 0 ≤ s ∧ s ≤ B + 3000
   omega
theorem numF_bound (f : Nat) (t n : Int) (group : List Int) (l : List S85) (hl : l.length ≤ 20) (hg : ∀ g ∈ l, gameB n g = true) : 0 ≤ numF f (sidesOf t l) group ∧ numF f (sidesOf t l) group ≤ 60000 := by
 rw [numF_step]
 have main : ∀ (l : List S85) (s B : Int), (∀ g ∈ l, gameB n g = true) → 0 ≤ s → s ≤ B → B + 3000 * l.length ≤ 1000000000 → 0 ≤ l.foldl (stepN f t group) s ∧ l.foldl (stepN f t group) s ≤ B + 3000 * l.length := by
  intro l
  induction l with
  | nil => intro s B _ h0 hB _; simpa using ⟨h0, hB⟩
  | cons g l ih =>
   intro s B hg h0 hB hb2
   rw [List.length_cons] at hb2 ⊢
   obtain ⟨h1, h2⟩ := stepN_bound f t n group g (hg g List.mem_cons_self) s B h0 hB (by omega)
   obtain ⟨h3, h4⟩ := ih _ (B + 3000) (fun x hx => hg x (List.mem_cons_of_mem _ hx)) h1 h2 (by push_cast at hb2; omega)
   rw [List.foldl_cons]
   refine ⟨h3, ?_⟩
   push_cast
   omega
 have := main l 0 0 hg (by decide) (by decide) (by omega)
 omega
end Go.Proofs.Ytmnamkcjldaoeaa.PAll
namespace Go.Proofs.Ytmnamkcjldaoeaa.PAll
open Go.RowKit Go.Proofs.YtmnamkcjldaoeaaW.PrintWords Go.Proofs.YtmnamkcjldaoeaaW.PrintLast Go.Proofs.YtmnamkcjldaoeaaW.PrintMore
set_option linter.unusedVariables false
set_option linter.unusedSimpArgs false
structure Give where
 a : Int
 x : Int
 b : Int
 y : Int
def Give.ok (m : Nat) (t : Give) : Prop := 0 ≤ t.a ∧ t.a < m ∧ 0 ≤ t.b ∧ t.b < m ∧ 0 ≤ t.x ∧ t.x ≤ 2 ∧ 0 ≤ t.y ∧ t.y ≤ 2
def step2 (s : List Int) (t : Give) : List Int := addAt (addAt s t.a t.x) t.b t.y
def Give.to (t : Give) (i : Nat) : Int := (if t.a = i then t.x else 0) + (if t.b = i then t.y else 0)
def sumTo (T : List Give) (i : Nat) : Int := (T.map fun t => t.to i).sum
theorem step2_len (s : List Int) (t : Give) : (step2 s t).length = s.length := by simp [step2, addAt]
theorem addAt_get (s : List Int) (j v : Int) (i : Nat) (h0 : 0 ≤ j) (hj : j < s.length) (B : Int) (hs : 0 ≤ s.getD j.toNat 0 ∧ s.getD j.toNat 0 ≤ B) (hB : B ≤ 1000000000) (hv : 0 ≤ v ∧ v ≤ 2) :
  (addAt s j v).getD i 0 = s.getD i 0 + (if j = i then v else 0) := by
 unfold addAt
 by_cases hij : j = i
 ·
  have : j.toNat = i := by omega
  subst this
  rw [if_pos hij, List.getD_eq_getElem?_getD, List.getElem?_set_self (by omega), Option.getD_some, IntWalk.wrap64_in _ ⟨by omega, by omega⟩]
 ·
  rw [if_neg hij, List.getD_eq_getElem?_getD, List.getElem?_set_ne (by omega), ← List.getD_eq_getElem?_getD, Int.add_zero]
theorem Give.to_range {m : Nat} {t : Give} (h : t.ok m) (i : Nat) : 0 ≤ t.to i ∧ t.to i ≤ 4 := by
 obtain ⟨_, _, _, _, h5, h6, h7, h8⟩ := h
 unfold Give.to
 split <;> split <;> omega
theorem fold2_get : ∀ (T : List Give) (s : List Int) (B : Int), (∀ t ∈ T, t.ok s.length) → (∀ i, 0 ≤ s.getD i 0 ∧ s.getD i 0 ≤ B) → B + 4 * T.length ≤ 1000000 → ∀ i : Nat, (T.foldl step2 s).getD i 0 = s.getD i 0 + sumTo T i
 | [], s, B, _, _, _, i => by simp [sumTo]
 | t :: T, s, B, hT, hs, hB, i => by
  rw [List.length_cons] at hB
  have ht := hT t List.mem_cons_self
  obtain ⟨o1, o2, o3, o4, o5, o6, o7, o8⟩ := ht
  have e1 : ∀ i : Nat, (addAt s t.a t.x).getD i 0 = s.getD i 0 + (if t.a = i then t.x else 0) := fun i => addAt_get s t.a t.x i o1 o2 B (hs _) (by omega) ⟨o5, o6⟩
  have hl1 : (addAt s t.a t.x).length = s.length := by simp [addAt]
  have e2 : ∀ i : Nat, (step2 s t).getD i 0 = s.getD i 0 + t.to i := by
   intro i
   have hb := e1 t.b.toNat
   have hs2 := hs t.b.toNat
   unfold step2 Give.to
   rw [addAt_get (addAt s t.a t.x) t.b t.y i o3 (by rw [hl1]; exact o4) (B + 2) (by rw [hb]; split <;> omega) (by omega) ⟨o7, o8⟩, e1 i]
   omega
  rw [List.foldl_cons, fold2_get T (step2 s t) (B + 4) (fun u hu => by rw [step2_len]; exact hT u (List.mem_cons_of_mem _ hu)) (fun i => by
   rw [e2]
   have := hs i
   have := Give.to_range (hT t List.mem_cons_self) i
   omega) (by push_cast at hB; omega), e2]
  simp only [sumTo, List.map_cons, List.sum_cons]
  omega
def gGive (g : S85) : Give := ⟨g.f0, (givesF g).1, g.f1, (givesF g).2⟩
def oGive (g : S85) (o : Int) : Give := ⟨g.f0, 3 - o, g.f1, o - 1⟩
def playT : List S85 → List Int → List Give
 | [], _ => []
 | g :: l, os => if g.f4 = true then oGive g (os.headD 0) :: playT l os.tail else gGive g :: playT l os
theorem openG_cons (g : S85) (l : List S85) : openG (g :: l) = if g.f4 = true then g :: openG l else openG l := by
 unfold openG
 rw [List.filter_cons]
theorem gives_open {g : S85} (h : g.f4 = true) : givesF g = (0, 0) := by
 unfold givesF
 rw [if_pos h]
theorem playT_sum (i : Nat) : ∀ (l : List S85) (os : List Int), os.length = (openG l).length → sumTo (playT l os) i = sumTo (l.map gGive) i + sumTo (((openG l).zip os).map fun p => oGive p.1 p.2) i
 | [], os, _ => by simp [playT, sumTo, openG]
 | g :: l, os, h => by
  rw [openG_cons] at h ⊢
  unfold playT
  by_cases hg : g.f4 = true
  ·
   rw [if_pos hg] at h ⊢
   rw [if_pos hg]
   match os, h with
   | o :: os, h =>
    have ih := playT_sum i l os (by simpa using h)
    have hz : (gGive g).to i = 0 := by
     unfold gGive Give.to
     rw [gives_open hg]
     simp
    simp only [sumTo, List.map_cons, List.sum_cons, List.zip_cons_cons, List.headD_cons, List.tail_cons] at ih ⊢
    omega
  ·
   rw [if_neg hg] at h ⊢
   rw [if_neg hg]
   have ih := playT_sum i l os h
   simp only [sumTo, List.map_cons, List.sum_cons] at ih ⊢
   omega
theorem gGive_ok {n : Int} {m : Nat} {g : S85} (h : gameB n g = true) (hm : n ≤ m) : (gGive g).ok m := by
 obtain ⟨_, _, ⟨h1, h2⟩, ⟨h3, h4⟩, _, _⟩ := (gameB_iff n g).1 h
 have := gives_range g
 simp only [List.mem_cons, List.not_mem_nil, or_false] at this
 unfold Give.ok gGive
 refine ⟨h1, by show g.f0 < m; omega, h3, by show g.f1 < m; omega, ?_, ?_, ?_, ?_⟩
 ·
  show 0 ≤ (givesF g).1; omega
 ·
  show (givesF g).1 ≤ 2; omega
 ·
  show 0 ≤ (givesF g).2; omega
 ·
  show (givesF g).2 ≤ 2; omega
theorem rep_get (n i : Nat) : (List.replicate n (0 : Int)).getD i 0 = 0 := by
 rw [List.getD_eq_getElem?_getD]
 by_cases h : i < n
 ·
  simp [List.getElem?_replicate, h]
 ·
  simp [List.getElem?_replicate, h]
end Go.Proofs.Ytmnamkcjldaoeaa.PAll
namespace Go.Proofs.Ytmnamkcjldaoeaa.PAll
open Go.RowKit Go.Proofs.YtmnamkcjldaoeaaW.PrintWords Go.Proofs.YtmnamkcjldaoeaaW.PrintLast Go.Proofs.YtmnamkcjldaoeaaW.PrintMore
set_option linter.unusedVariables false
set_option linter.unusedSimpArgs false
set_option linter.unusedSectionVars false
theorem sums_get {n : Int} {l : List S85} (hc : checkF n l = 0) (i : Nat) : (sumsF l).getD i 0 = sumTo (l.map gGive) i := by
 obtain ⟨h20, n2, n6, hok⟩ := check_ok hc
 have e1 : sumsF l = (l.map gGive).foldl step2 (List.replicate 6 0) := by
  unfold sumsF
  rw [List.foldl_map]
  rfl
 rw [e1, fold2_get _ (List.replicate 6 0) 0 (fun t ht => by
  obtain ⟨g, hg, rfl⟩ := List.mem_map.1 ht
  rw [List.length_replicate]
  exact gGive_ok (hok g hg) (by omega)) (fun i => by rw [rep_get]; omega) (by rw [List.length_map]; omega), rep_get]
 omega
theorem num_sum {n : Int} (t : Nat) : ∀ (l : List S85) (s : Int), (∀ g ∈ l, gameB n g = true) → 0 ≤ s → s + 4 * l.length ≤ 1000000 → l.foldl (stepN 88 (t : Int) []) s = s + sumTo (l.map gGive) t
 | [], s, _, _, _ => by simp [sumTo]
 | g :: l, s, hg, h0, hB => by
  rw [List.length_cons] at hB
  have hok := hg g List.mem_cons_self
  have hne := ((gameB_iff n g).1 hok).2.2.2.2.1
  have hr := gives_range g
  simp only [List.mem_cons, List.not_mem_nil, or_false] at hr
  have hst : stepN 88 (t : Int) [] s g = s + (gGive g).to t := by
   unfold stepN Give.to gGive
   rw [sidesG_of _ g hne]
   by_cases c1 : g.f1 = t
   ·
    have c0 : ¬ g.f0 = t := fun h => hne (h.trans c1.symm)
    rw [if_pos c1, if_neg c0, if_pos c1]
    show wrap64 (s + (givesF g).2) = s + (0 + (givesF g).2)
    rw [IntWalk.wrap64_in _ ⟨by omega, by omega⟩]
    omega
   ·
    rw [if_neg c1, if_neg c1]
    by_cases c0 : g.f0 = t
    ·
     rw [if_pos c0, if_pos c0]
     show wrap64 (s + (givesF g).1) = s + ((givesF g).1 + 0)
     rw [IntWalk.wrap64_in _ ⟨by omega, by omega⟩]
     omega
    ·
     rw [if_neg c0, if_neg c0]
     show s = _
     omega
  have ht := Give.to_range (gGive_ok hok (m := n.toNat) (by have := ((gameB_iff n g).1 hok).2.2.1; omega)) t
  rw [List.foldl_cons, hst, num_sum t l _ (fun x hx => hg x (List.mem_cons_of_mem _ hx)) (by omega) (by push_cast at hB; omega)]
  simp only [sumTo, List.map_cons, List.sum_cons]
  omega
theorem num_sums {n : Int} {l : List S85} (hc : checkF n l = 0) (t : Int) (h0 : 0 ≤ t) : numF (ruleFn 1) (sidesOf t l) [] = (sumsF l).getD t.toNat 0 := by
 obtain ⟨h20, n2, n6, hok⟩ := check_ok hc
 rw [sums_get hc, ruleFn_1, numF_step]
 have := num_sum t.toNat l 0 hok (Int.le_refl _) (by omega)
 rw [show ((t.toNat : Nat) : Int) = t from by omega] at this
 rw [this]
 omega
def okI (n t : Int) (xs : List Int) (i : Nat) : Bool := (decide (0 ≤ xs.getD i 0) && decide (xs.getD i 0 < n)) && (!decide (xs.getD i 0 = t) && (decide (i = 0) || decide (xs.getD (i - 1) 0 < xs.getD i 0)))
def okFrom (n t : Int) (xs : List Int) : Nat → Nat → Bool
 | _, 0 => true
 | i, d + 1 => okI n t xs i && okFrom n t xs (i + 1) d
section
variable (n : Int) (l : List S70) (hc : checkF n (l.map toG) = 0)
include hc
end
end Go.Proofs.Ytmnamkcjldaoeaa.PAll
namespace Go.Proofs.Ytmnamkcjldaoeaa.PAll
open Go.RowKit Go.Proofs.YtmnamkcjldaoeaaW.PrintWords Go.Proofs.YtmnamkcjldaoeaaW.PrintLast Go.Proofs.YtmnamkcjldaoeaaW.PrintMore
set_option linter.unusedVariables false
set_option linter.unusedSimpArgs false
set_option linter.unusedSectionVars false
theorem sumTo_range {m : Nat} : ∀ (T : List Give) (i : Nat), (∀ t ∈ T, t.ok m) → 0 ≤ sumTo T i ∧ sumTo T i ≤ 4 * T.length ∧ (m ≤ i → sumTo T i = 0)
 | [], i, _ => by simp [sumTo]
 | t :: T, i, h => by
  have h1 := sumTo_range T i (fun u hu => h u (List.mem_cons_of_mem _ hu))
  have ho := h t List.mem_cons_self
  have h2 := Give.to_range ho i
  have h3 : m ≤ i → t.to i = 0 := by
   obtain ⟨o1, o2, o3, o4, _⟩ := ho
   intro hm
   unfold Give.to
   rw [if_neg (by omega), if_neg (by omega)]
   rfl
  simp only [sumTo, List.map_cons, List.sum_cons, List.length_cons] at h1 ⊢
  refine ⟨by omega, by push_cast; omega, fun hm => ?_⟩
  rw [h3 hm, h1.2.2 hm]
  rfl
def openWith (op : List S85) (team : Int) : Int := (op.map fun g => if g.f0 = team ∨ g.f1 = team then (2 : Int) else 0).sum
theorem openWith_range (team : Int) : ∀ op : List S85, 0 ≤ openWith op team ∧ openWith op team ≤ 2 * op.length
 | [] => by simp [openWith]
 | g :: op => by
  have := openWith_range team op
  simp only [openWith, List.map_cons, List.sum_cons, List.length_cons] at this ⊢
  push_cast
  split <;> omega
theorem fold_reach (team : Int) : ∀ (op : List S85) (s : Int), 0 ≤ s → s + 2 * op.length ≤ 1000000 → op.foldl (reachStep team) s = s + openWith op team
 | [], s, _, _ => by simp [openWith]
 | g :: op, s, h0, h1 => by
  rw [List.length_cons] at h1
  push_cast at h1
  have hw : openWith (g :: op) team = (if g.f0 = team ∨ g.f1 = team then 2 else 0) + openWith op team := by
   unfold openWith
   rw [List.map_cons, List.sum_cons]
  have hs : reachStep team s g = s + (if g.f0 = team ∨ g.f1 = team then 2 else 0) := by
   unfold reachStep
   split
   ·
    rw [IntWalk.wrap64_in _ ⟨by omega, by omega⟩]
   ·
    omega
  rw [List.foldl_cons, hs, hw, fold_reach team op _ (by split <;> omega) (by split <;> omega)]
  omega
section
variable {n : Int} {l : List S85} (hc : checkF n l = 0)
include hc
theorem open_len : (openG l).length ≤ 20 := Nat.le_trans (List.length_filter_le _ _) (check_ok hc).1
theorem open_ok {g : S85} (hg : g ∈ openG l) : (0 ≤ g.f0 ∧ g.f0 < n) ∧ (0 ≤ g.f1 ∧ g.f1 < n) ∧ g.f0 ≠ g.f1 := by
 have := (gameB_iff n g).1 ((check_ok hc).2.2.2 g (List.mem_filter.1 hg).1)
 exact ⟨this.2.2.1, this.2.2.2.1, this.2.2.2.2.1⟩
theorem gives_all : ∀ t ∈ l.map gGive, t.ok n.toNat := by
 obtain ⟨h20, n2, n6, hok⟩ := check_ok hc
 intro t ht
 obtain ⟨g, hg, rfl⟩ := List.mem_map.1 ht
 exact gGive_ok (hok g hg) (by omega)
theorem sums_rng (i : Nat) : 0 ≤ (sumsF l).getD i 0 ∧ (sumsF l).getD i 0 ≤ 80 := by
 have h1 := sumTo_range (l.map gGive) i (gives_all hc)
 have := (check_ok hc).1
 rw [List.length_map] at h1
 rw [sums_get hc]
 omega
theorem sums_zero (i : Nat) (h : n ≤ i) : (sumsF l).getD i 0 = 0 := by
 rw [sums_get hc]
 exact (sumTo_range (l.map gGive) i (gives_all hc)).2.2 (by omega)
theorem reach_eq (team : Int) : reachF l team = (sumsF l).getD team.toNat 0 + openWith (openG l) team := by
 have h1 := sums_rng hc team.toNat
 have h2 := open_len hc
 unfold reachF
 exact fold_reach team (openG l) _ h1.1 (by omega)
theorem reach_rng (team : Int) : 0 ≤ reachF l team ∧ reachF l team ≤ 120 := by
 have h1 := sums_rng hc team.toNat
 have h2 := open_len hc
 have h3 := openWith_range team (openG l)
 rw [reach_eq hc]
 omega
end
def raceP (n : Int) (l : List S85) (team : Int) : FB := ⟨openG l, team, reachF l team, n, sumsF l⟩
theorem raceP_ok {n : Int} {l : List S85} (hc : checkF n l = 0) (team : Int) : (raceP n l team).ok := by
 refine ⟨(check_ok hc).2.2.1, open_len hc, fun i hi => ?_, fun t _ _ => ?_⟩
 ·
  have hi : i < (openG l).length := hi
  have : (openG l).getD i z85 ∈ openG l := by
   rw [List.getD_eq_getElem?_getD, List.getElem?_eq_getElem hi]
   exact List.getElem_mem hi
  exact open_ok hc this
 ·
  have := sums_rng hc t.toNat
  exact ⟨this.1, by show (sumsF l).getD t.toNat 0 ≤ 1000; omega⟩
theorem raceP_runs {n : Int} {l : List S85} (hc : checkF n l = 0) (team : Int) :
  ∃ r gv hv, runsF (openG l) team (reachF l team) (sumsF l) = some (r, gv, hv) ∧ (r = true → (raceP n l team).I gv hv ∧ ∀ u : Nat, u < 6 → (u : Int) ≠ team → hv.getD u 0 ≤ reachF l team) ∧ (r = false → (raceP n l team).Cut ∨ ∃ y ∈ sumsF l, reachF l team < y) :=
 runs_ok (raceP_ok hc team) (sumsF_length l) (reach_rng hc team).1 (fun t h _ => sums_zero hc t.toNat (by have : n ≤ t := h; omega))
def canF (n : Int) (l : List S85) (team : Int) : Bool × Int :=
 if askF n l team = 0 then (((runsF (openG l) team (reachF l team) (sumsF l)).getD (false, [], [])).1, 0) else (false, askF n l team)
def showsF (n : Int) (l : List S85) (team : Int) : List Int × Int :=
 if askF n l team = 0 then
  (if ((runsF (openG l) team (reachF l team) (sumsF l)).getD (false, [], [])).1 = true then (((runsF (openG l) team (reachF l team) (sumsF l)).getD (false, [], [])).2.1.map fun x => 3 - x, 0) else ([], 9))
 else ([], askF n l team)
def league_CanFirst.f (a0_0 : Int) (l0_1 : List (S85)) (a1 : Int) : Option (Bool × Int) := some (canF a0_0 l0_1 a1)
end Go.Proofs.Ytmnamkcjldaoeaa.PAll
namespace Go.Proofs.Ytmnamkcjldaoeaa.PAll
open Go.RowKit Go.Proofs.YtmnamkcjldaoeaaW.PrintWords Go.Proofs.YtmnamkcjldaoeaaW.PrintLast Go.Proofs.YtmnamkcjldaoeaaW.PrintMore
set_option linter.unusedVariables false
set_option linter.unusedSimpArgs false
set_option linter.unusedSectionVars false
theorem list_sum (ys : List Int) : ∀ (L : List Int) (s : Int), 0 ≤ s → (∀ t ∈ L, 0 ≤ ys.getD t.toNat 0 ∧ ys.getD t.toNat 0 ≤ 80) → s + 80 * L.length ≤ 1000000 →
  L.foldl (fun n t => wrap64 (n + ys.getD t.toNat 0)) s = s + (L.map fun t => ys.getD t.toNat 0).sum ∧ 0 ≤ (L.map fun t => ys.getD t.toNat 0).sum ∧ (L.map fun t => ys.getD t.toNat 0).sum ≤ 80 * L.length
 | [], s, _, _, _ => by simp
 | t :: L, s, h0, h, hs => by
  rw [List.length_cons] at hs
  push_cast at hs
  have ht := h t List.mem_cons_self
  obtain ⟨h1, h2, h3⟩ := list_sum ys L (s + ys.getD t.toNat 0) (by omega) (fun u hu => h u (List.mem_cons_of_mem _ hu)) (by omega)
  rw [List.foldl_cons, IntWalk.wrap64_in _ ⟨by omega, by omega⟩, h1, List.map_cons, List.sum_cons, List.length_cons]
  push_cast
  omega
theorem both_sum (L : List Int) : ∀ (op : List S85) (s : Int), 0 ≤ s → s + 2 * op.length ≤ 1000000 → op.foldl (bothStep L) s = s + bothS L op ∧ 0 ≤ bothS L op ∧ bothS L op ≤ 2 * op.length
 | [], s, _, _ => by simp [bothS]
 | g :: op, s, h0, hs => by
  rw [List.length_cons] at hs
  push_cast at hs
  have e1 : bothStep L s g = s + (if g.f0 ∈ L ∧ g.f1 ∈ L then 2 else 0) := by
   unfold bothStep
   simp only [Bool.and_eq_true, List.contains_iff_mem]
   split
   ·
    rw [IntWalk.wrap64_in _ ⟨by omega, by omega⟩]
   ·
    omega
  have e2 : bothS L (g :: op) = (if g.f0 ∈ L ∧ g.f1 ∈ L then 2 else 0) + bothS L op := by
   unfold bothS
   rw [List.map_cons, List.sum_cons]
  have e3 : (0 : Int) ≤ (if g.f0 ∈ L ∧ g.f1 ∈ L then 2 else 0) ∧ (if g.f0 ∈ L ∧ g.f1 ∈ L then 2 else 0) ≤ (2 : Int) := by split <;> omega
  obtain ⟨h1, h2, h3⟩ := both_sum L op (s + (if g.f0 ∈ L ∧ g.f1 ∈ L then 2 else 0)) (by omega) (by omega)
  rw [List.foldl_cons, e1, e2, h1, List.length_cons]
  push_cast
  omega
section
variable {n : Int} {l : List S85} (hc : checkF n l = 0)
include hc
theorem ruled_iff (team : Int) (L : List Int) (hL : L.length ≤ 100) :
  ruledF (reachF l team) (sumsF l) (openG l) L = true ↔ L ≠ [] ∧ reachF l team * L.length < (L.map fun t => (sumsF l).getD t.toNat 0).sum + bothS L (openG l) := by
 have h1 := list_sum (sumsF l) L 0 (Int.le_refl _) (fun t _ => sums_rng hc t.toNat) (by omega)
 have ho := open_len hc
 have h2 := both_sum L (openG l) ((L.map fun t => (sumsF l).getD t.toNat 0).sum) h1.2.1 (by omega)
 have hg : groupSum (sumsF l) (openG l) L = (L.map fun t => (sumsF l).getD t.toNat 0).sum + bothS L (openG l) := by
  have e : groupSum (sumsF l) (openG l) L = (openG l).foldl (bothStep L) (listSum (sumsF l) L) := rfl
  rw [e, show listSum (sumsF l) L = L.foldl (fun n t => wrap64 (n + (sumsF l).getD t.toNat 0)) 0 from rfl, h1.1, Int.zero_add, h2.1]
 have hr := reach_rng hc team
 have hm : 0 ≤ reachF l team * L.length ∧ reachF l team * L.length ≤ 12000 := by
  refine ⟨Int.mul_nonneg hr.1 (by omega), ?_⟩
  have : reachF l team * (L.length : Int) ≤ 120 * 100 := Int.mul_le_mul hr.2 (by omega) (by omega) (by decide)
  omega
 unfold ruledF
 rw [hg, IntWalk.wrap64_in _ ⟨by omega, by omega⟩, Bool.and_eq_true, decide_eq_true_eq, decide_eq_true_eq, List.length_pos_iff]
end
theorem one_sum (a x : Int) : ∀ (L : List Int), L.Nodup → (L.map fun u => if a = u then x else 0).sum = if a ∈ L then x else 0
 | [], _ => by simp
 | v :: L, h => by
  obtain ⟨h1, h2⟩ := List.nodup_cons.1 h
  rw [List.map_cons, List.sum_cons, one_sum a x L h2]
  by_cases ha : a = v
  ·
   subst ha
   simp only [if_true, List.mem_cons, true_or, h1, if_false]
   omega
  ·
   simp only [List.mem_cons, ha, false_or, if_false]
   omega
def outT (op : List S85) (os : List Int) : List Give := (op.zip os).map fun p => oGive p.1 p.2
theorem outT_cons (g : S85) (op : List S85) (o : Int) (os : List Int) : outT (g :: op) (o :: os) = oGive g o :: outT op os := rfl
theorem sumTo_cons (t : Give) (T : List Give) (i : Nat) : sumTo (t :: T) i = t.to i + sumTo T i := by simp [sumTo]
theorem give_to (g : S85) (o u : Int) (hu : 0 ≤ u) : (oGive g o).to u.toNat = (if g.f0 = u then 3 - o else 0) + (if g.f1 = u then o - 1 else 0) := by
 unfold Give.to oGive
 rw [show ((u.toNat : Nat) : Int) = u from by omega]
theorem out_both (L : List Int) (hn : L.Nodup) (h0 : ∀ u ∈ L, 0 ≤ u) : ∀ (op : List S85) (os : List Int), os.length = op.length → (∀ o ∈ os, 1 ≤ o ∧ o ≤ 3) → bothS L op ≤ (L.map fun u => sumTo (outT op os) u.toNat).sum
 | [], os, hl, _ => by
  have : ∀ L : List Int, (L.map fun _ => (0 : Int)).sum = 0 := by
   intro L
   induction L with
   | nil => rfl
   | cons v L ih => rw [List.map_cons, List.sum_cons, ih]; rfl
  show 0 ≤ (L.map fun u => (0 : Int)).sum
  rw [this]
  exact Int.le_refl _
 | g :: op, [], hl, _ => by simp at hl
 | g :: op, o :: os, hl, ho => by
  have ih := out_both L hn h0 op os (by simpa using hl) (fun x hx => ho x (List.mem_cons_of_mem _ hx))
  have h1 := ho o List.mem_cons_self
  have e1 : (L.map fun u => sumTo (outT (g :: op) (o :: os)) u.toNat).sum = (L.map fun u => ((if g.f0 = u then 3 - o else 0) + (if g.f1 = u then o - 1 else 0)) + sumTo (outT op os) u.toNat).sum := sum_congr' L (fun u hu => by rw [outT_cons, sumTo_cons, give_to g o u (h0 u hu)])
  have e2 := sum_add (fun u => (if g.f0 = u then 3 - o else 0) + (if g.f1 = u then o - 1 else 0)) (fun u => sumTo (outT op os) u.toNat) L
  have e3 := sum_add (fun u => if g.f0 = u then 3 - o else 0) (fun u => if g.f1 = u then o - 1 else 0) L
  rw [one_sum g.f0 (3 - o) L hn, one_sum g.f1 (o - 1) L hn] at e3
  rw [e1, e2, e3]
  have e4 : bothS L (g :: op) = (if g.f0 ∈ L ∧ g.f1 ∈ L then 2 else 0) + bothS L op := by
   unfold bothS
   rw [List.map_cons, List.sum_cons]
  rw [e4]
  by_cases c0 : g.f0 ∈ L
  ·
   by_cases c1 : g.f1 ∈ L
   ·
    rw [if_pos ⟨c0, c1⟩, if_pos c0, if_pos c1]
    omega
   ·
    rw [if_neg (fun h => c1 h.2), if_pos c0, if_neg c1]
    omega
  ·
   rw [if_neg (fun h => c0 h.1), if_neg c0]
   split <;> omega
theorem out_with (team : Int) (h0 : 0 ≤ team) : ∀ (op : List S85) (os : List Int), os.length = op.length → (∀ g ∈ op, g.f0 ≠ g.f1) → (∀ o ∈ os, 1 ≤ o ∧ o ≤ 3) → sumTo (outT op os) team.toNat ≤ openWith op team
 | [], os, _, _, _ => Int.le_refl _
 | g :: op, [], hl, _, _ => by simp at hl
 | g :: op, o :: os, hl, hg, ho => by
  have ih := out_with team h0 op os (by simpa using hl) (fun x hx => hg x (List.mem_cons_of_mem _ hx)) (fun x hx => ho x (List.mem_cons_of_mem _ hx))
  have h1 := ho o List.mem_cons_self
  have h2 := hg g List.mem_cons_self
  have e : openWith (g :: op) team = (if g.f0 = team ∨ g.f1 = team then 2 else 0) + openWith op team := by
   unfold openWith
   rw [List.map_cons, List.sum_cons]
  rw [outT_cons, sumTo_cons, give_to g o team h0, e]
  by_cases c0 : g.f0 = team
  ·
   rw [if_pos c0, if_neg (fun h => h2 (c0.trans h.symm)), if_pos (.inl c0)]
   omega
  ·
   by_cases c1 : g.f1 = team
   ·
    rw [if_neg c0, if_pos c1, if_pos (.inr c1)]
    omega
   ·
    rw [if_neg c0, if_neg c1, if_neg (fun h => h.elim c0 c1)]
    omega
theorem out_shown (team : Int) (h0 : 0 ≤ team) (t : Int) (t0 : 0 ≤ t) : ∀ (op : List S85) (gv : List Int), gv.length = op.length → (∀ g ∈ op, g.f0 ≠ g.f1) → (∀ i, i < op.length → ((op.getD i z85).f0 = team → gv.getD i 0 = 2) ∧ ((op.getD i z85).f1 = team → gv.getD i 0 = 0)) →
  sumTo (outT op (gv.map fun x => 3 - x)) t.toNat = if t = team then openWith op team else cons team op gv t
 | [], gv, _, _, _ => by
  rw [show openWith [] team = 0 from rfl, show cons team [] gv t = 0 from by simp [cons], show sumTo (outT [] (gv.map fun x => 3 - x)) t.toNat = 0 from rfl]
  simp
 | g :: op, [], hl, _, _ => by simp at hl
 | g :: op, x :: gv, hl, hg, hi => by
  have ih := out_shown team h0 t t0 op gv (by simpa using hl) (fun x hx => hg x (List.mem_cons_of_mem _ hx)) (fun i h => by
   have := hi (i + 1) (by simpa using h)
   simpa only [List.getD_cons_succ] using this)
  have h1 := hi 0 (by simp)
  simp only [List.getD_cons_zero] at h1
  have h2 := hg g List.mem_cons_self
  have e : openWith (g :: op) team = (if g.f0 = team ∨ g.f1 = team then 2 else 0) + openWith op team := by
   unfold openWith
   rw [List.map_cons, List.sum_cons]
  rw [List.map_cons, outT_cons, sumTo_cons, give_to g (3 - x) t t0, ih, e]
  simp only [cons]
  unfold con
  by_cases c : t = team
  ·
   subst c
   rw [if_pos rfl, if_pos rfl]
   by_cases c0 : g.f0 = t
   ·
    have := h1.1 c0
    rw [if_pos c0, if_neg (fun h => h2 (c0.trans h.symm)), if_pos (.inl c0)]
    omega
   ·
    by_cases c1 : g.f1 = t
    ·
     have := h1.2 c1
     rw [if_neg c0, if_pos c1, if_pos (.inr c1)]
     omega
    ·
     rw [if_neg c0, if_neg c1, if_neg (fun h => h.elim c0 c1)]
     omega
  ·
   rw [if_neg c, if_neg c]
   by_cases c0 : g.f0 = t
   ·
    rw [if_pos c0, if_neg (fun h => h2 (c0.trans h.symm))]
    by_cases ct : g.f1 = team
    ·
     have := h1.2 ct
     rw [if_pos (.inr ct)]
     omega
    ·
     rw [if_neg (by omega), if_pos c0]
     omega
   ·
    by_cases c1 : g.f1 = t
    ·
     rw [if_neg c0, if_pos c1]
     by_cases ct : g.f0 = team
     ·
      have := h1.1 ct
      rw [if_pos (.inl ct)]
      omega
     ·
      rw [if_neg (by omega), if_neg c0, if_pos c1]
      omega
    ·
     rw [if_neg c0, if_neg c1]
     split <;> omega
def chkL (n : Nat) (sn : List Bool) : Bool := !((seenL sn).all fun u => decide (u < (n : Int))) || (decide (seenL sn = []) || (subsL n).contains (seenL sn))
theorem chk2 : ∀ a b c d e f : Bool, chkL 2 [a, b, c, d, e, f] = true := by decide +kernel
theorem chk3 : ∀ a b c d e f : Bool, chkL 3 [a, b, c, d, e, f] = true := by decide +kernel
theorem chk4 : ∀ a b c d e f : Bool, chkL 4 [a, b, c, d, e, f] = true := by decide +kernel
theorem chk5 : ∀ a b c d e f : Bool, chkL 5 [a, b, c, d, e, f] = true := by decide +kernel
theorem chk6 : ∀ a b c d e f : Bool, chkL 6 [a, b, c, d, e, f] = true := by decide +kernel
theorem chk_ok (N : Nat) (n2 : 2 ≤ N) (n6 : N ≤ 6) (sn : List Bool) (hl : sn.length = 6) (hne : seenL sn ≠ []) (hn : ∀ u ∈ seenL sn, u < (N : Int)) : seenL sn ∈ subsL N := by
 have key : chkL N sn = true := by
  match sn, hl with
  | [a, b, c, d, e, f], _ =>
   have : N = 2 ∨ N = 3 ∨ N = 4 ∨ N = 5 ∨ N = 6 := by omega
   rcases this with rfl | rfl | rfl | rfl | rfl
   ·
    exact chk2 a b c d e f
   ·
    exact chk3 a b c d e f
   ·
    exact chk4 a b c d e f
   ·
    exact chk5 a b c d e f
   ·
    exact chk6 a b c d e f
 unfold chkL at key
 rw [Bool.or_eq_true, Bool.or_eq_true, Bool.not_eq_true', decide_eq_true_eq, List.contains_iff_mem] at key
 rcases key with h | h | h
 ·
  have : ((seenL sn).all fun u => decide (u < (N : Int))) = true := List.all_eq_true.2 fun u hu => decide_eq_true (hn u hu)
  rw [this] at h
  cases h
 ·
  exact absurd h hne
 ·
  exact h
def goodL (n t : Nat) (b : List Int) : Bool := (decide b.Nodup && decide (b.length ≤ 6)) && (b.all (fun u => decide (0 ≤ u) && (decide (u < (n : Int)) && !decide (u = (t : Int)))) && okFrom n t b 0 b.length)
theorem good_all : ((List.range 7).all fun n => (List.range 6).all fun t => (subsL n).all fun b => b.contains (t : Int) || goodL n t b) = true := by kernel_rfl
theorem good_ok (N T : Nat) (n6 : N ≤ 6) (hT : T < N) (b : List Int) (hb : b ∈ subsL N) (ht : (T : Int) ∉ b) : b.Nodup ∧ b.length ≤ 6 ∧ (∀ u ∈ b, 0 ≤ u ∧ u < (N : Int) ∧ u ≠ (T : Int)) ∧ okFrom N T b 0 b.length = true := by
 have := List.all_eq_true.1 (List.all_eq_true.1 (List.all_eq_true.1 good_all N (List.mem_range.2 (by omega))) T (List.mem_range.2 (by omega))) b hb
 rw [Bool.or_eq_true, List.contains_iff_mem] at this
 have := this.resolve_left ht
 unfold goodL at this
 simp only [Bool.and_eq_true, decide_eq_true_eq, List.all_eq_true, Bool.not_eq_true', decide_eq_false_iff_not] at this
 exact ⟨this.1.1, this.1.2, fun u hu => ⟨(this.2.1 u hu).1, (this.2.1 u hu).2.1, (this.2.1 u hu).2.2⟩, this.2.2⟩
def ptsT (l : List S85) (os : List Int) (u : Int) : Int := sumTo (playT l os) u.toNat
section
variable {n : Int} {l : List S85} (hc : checkF n l = 0)
include hc
theorem ptsT_eq {os : List Int} (ho : os.length = (openG l).length) (u : Int) : ptsT l os u = (sumsF l).getD u.toNat 0 + sumTo (outT (openG l) os) u.toNat := by
 unfold ptsT
 rw [playT_sum _ _ _ ho, sums_get hc]
 rfl
theorem ruled_more (team : Int) (ht : 0 ≤ team) (L : List Int) (hn : L.Nodup) (h0 : ∀ u ∈ L, 0 ≤ u) (hl : L.length ≤ 100) (hL : ruledF (reachF l team) (sumsF l) (openG l) L = true) (os : List Int) (ho : os.length = (openG l).length) (hos : ∀ o ∈ os, 1 ≤ o ∧ o ≤ 3) :
  ∃ u ∈ L, ptsT l os team < ptsT l os u := by
 obtain ⟨h1, h2⟩ := (ruled_iff hc team L hl).1 hL
 have hne : ∀ g ∈ openG l, g.f0 ≠ g.f1 := fun g hg => (open_ok hc hg).2.2
 have h3 := out_both L hn h0 (openG l) os ho hos
 have h4 := out_with team ht (openG l) os ho hne hos
 have h5 := ptsT_eq hc ho team
 have h6 := reach_eq hc team
 by_cases hx : ∃ u ∈ L, ptsT l os team < ptsT l os u
 ·
  exact hx
 ·
  exfalso
  have hle : ∀ u ∈ L, -(reachF l team) ≤ -(ptsT l os u) := by
   intro u hu
   have : ¬ ptsT l os team < ptsT l os u := fun h => hx ⟨u, hu, h⟩
   omega
  have h7 := sum_more (-(reachF l team)) (fun u => -(ptsT l os u)) L hle
  have h8 : (L.map fun u => -(ptsT l os u)).sum = -((L.map fun u => (sumsF l).getD u.toNat 0).sum + (L.map fun u => sumTo (outT (openG l) os) u.toNat).sum) := by
   rw [← sum_add (fun u => (sumsF l).getD u.toNat 0) (fun u => sumTo (outT (openG l) os) u.toNat) L]
   have neg : ∀ (f : Int → Int) (L : List Int), (L.map fun u => -(f u)).sum = -((L.map f).sum) := by
    intro f L
    induction L with
    | nil => rfl
    | cons v L ih =>
     rw [List.map_cons, List.map_cons, List.sum_cons, List.sum_cons, ih]
     omega
   rw [neg (ptsT l os) L]
   exact congrArg _ (sum_congr' L (fun u _ => ptsT_eq hc ho u))
  rw [h8, Int.neg_mul] at h7
  omega
theorem can_eq {team : Int} (h0 : 0 ≤ team) (hn : team < n) : askF n l team = 0 := by
 unfold askF
 rw [if_pos hc, if_pos ⟨h0, hn⟩]
theorem can_first (team : Int) (h0 : 0 ≤ team) (hn : team < n) :
  ((canF n l team).1 = true ∧ (canF n l team).2 = 0 ∧ (showsF n l team).2 = 0 ∧ (showsF n l team).1.length = (openG l).length ∧ (∀ o ∈ (showsF n l team).1, 1 ≤ o ∧ o ≤ 3) ∧ ∀ u : Int, 0 ≤ u → u < 6 → ptsT l (showsF n l team).1 u ≤ ptsT l (showsF n l team).1 team) ∨
  ((canF n l team).1 = false ∧ (canF n l team).2 = 0 ∧ showsF n l team = ([], 9) ∧ ∃ L ∈ subsL n.toNat, team ∉ L ∧ ruledF (reachF l team) (sumsF l) (openG l) L = true) := by
 obtain ⟨r, gv, hv, e, h1, h2⟩ := raceP_runs hc team
 have ha := can_eq hc h0 hn
 obtain ⟨_, n2, n6, _⟩ := check_ok hc
 have hne : ∀ g ∈ openG l, g.f0 ≠ g.f1 := fun g hg => (open_ok hc hg).2.2
 unfold canF showsF
 rw [if_pos ha, if_pos ha, e, Option.getD_some]
 cases r with
 | true =>
  refine .inl ⟨rfl, rfl, ?_⟩
  obtain ⟨hI, hle⟩ := h1 rfl
  rw [if_pos rfl]
  have hgl : gv.length = (openG l).length := hI.gl
  have hol : (gv.map fun x => 3 - x).length = (openG l).length := by rw [List.length_map]; exact hgl
  refine ⟨rfl, hol, fun o ho => ?_, fun u u0 u6 => ?_⟩
  ·
   obtain ⟨x, hx, rfl⟩ := List.mem_map.1 ho
   have := hI.g2 x hx
   omega
  ·
   show ptsT l (gv.map fun x => 3 - x) u ≤ ptsT l (gv.map fun x => 3 - x) team
   rw [ptsT_eq hc hol, ptsT_eq hc hol, out_shown team h0 u u0 (openG l) gv hgl hne hI.gt, out_shown team h0 team h0 (openG l) gv hgl hne hI.gt, if_pos rfl]
   have hr := reach_eq hc team
   by_cases c : u = team
   ·
    subst c
    rw [if_pos rfl]
    exact Int.le_refl _
   ·
    rw [if_neg c]
    have hh := hI.hh u u0 u6
    have h3 := hle u.toNat (by omega) (by omega)
    have hh : hv.getD u.toNat 0 = (sumsF l).getD u.toNat 0 + cons team (openG l) gv u := hh
    omega
 | false =>
  refine .inr ⟨rfl, rfl, rfl, ?_⟩
  have hr := reach_eq hc team
  have hw := openWith_range team (openG l)
  have key : ∃ sn : List Bool, sn.length = 6 ∧ seenL sn ≠ [] ∧ (∀ u ∈ seenL sn, u ≠ team ∧ u < n) ∧ reachF l team * (seenL sn).length < ((seenL sn).map fun u => (sumsF l).getD u.toNat 0).sum + bothS (seenL sn) (openG l) := by
   rcases h2 rfl with hC | ⟨y, hy, hlt⟩
   ·
    exact cut_sum (raceP_ok hc team) hC
   ·
    obtain ⟨i, hi, rfl⟩ := List.getElem_of_mem hy
    have hi6 : i < 6 := by rw [sumsF_length] at hi; exact hi
    have hg : (sumsF l).getD i 0 = (sumsF l)[i] := by rw [List.getD_eq_getElem?_getD, List.getElem?_eq_getElem hi]; rfl
    have hs : seenL (seen0.set i true) = [(i : Int)] := by
     match i, hi6 with
     | 0, _ | 1, _ | 2, _ | 3, _ | 4, _ | 5, _ => rfl
    refine ⟨seen0.set i true, by rw [List.length_set]; rfl, by rw [hs]; exact List.cons_ne_nil _ _, ?_, ?_⟩
    ·
     rw [hs]
     intro u hu
     rw [List.mem_singleton] at hu
     subst hu
     refine ⟨fun h => ?_, ?_⟩
     ·
      subst h
      rw [Int.toNat_natCast] at hr
      omega
     ·
      rcases Int.lt_or_le (i : Int) n with h | h
      ·
       exact h
      ·
       have := sums_zero hc i h
       have := (reach_rng hc team).1
       omega
    ·
     rw [hs]
     have hb := (both_sum [(i : Int)] (openG l) 0 (Int.le_refl _) (by have := open_len hc; omega)).2.1
     simp only [List.map_cons, List.map_nil, List.sum_cons, List.sum_nil, List.length_singleton, Int.toNat_natCast]
     omega
  obtain ⟨sn, hl, hne2, hu, hlt⟩ := key
  refine ⟨seenL sn, chk_ok n.toNat (by omega) (by omega) sn hl hne2 (fun u hu2 => by have := (hu u hu2).2; omega), fun hm => (hu team hm).1 rfl, (ruled_iff hc team _ ?_).2 ⟨hne2, hlt⟩⟩
  unfold seenL
  rw [List.length_map]
  have := List.length_filter_le (fun i => sn.getD i false) (List.range 6)
  rw [List.length_range] at this
  omega
end
end Go.Proofs.Ytmnamkcjldaoeaa.PAll
namespace Go.Proofs.Ytmnamkcjldaoeaa.PAll
open Go.RowKit Go.Proofs.YtmnamkcjldaoeaaW.PrintWords Go.Proofs.YtmnamkcjldaoeaaW.PrintLast Go.Proofs.YtmnamkcjldaoeaaW.PrintMore
set_option linter.unusedVariables false
set_option linter.unusedSimpArgs false
set_option linter.unusedSectionVars false
theorem greatest_two (a b : Int) : league_greatest.f [a, b] = some (mx a b) := rfl
def bestOf (num : Int → Int) (rest : List Int) (b : Int) : Int := rest.foldl (fun b x => mx b (num x)) b
theorem mx_le (a b : Int) : a ≤ mx a b ∧ b ≤ mx a b ∧ (mx a b = a ∨ mx a b = b) := by
 unfold mx
 split <;> omega
theorem bestOf_spec (num : Int → Int) : ∀ (rest : List Int) (b : Int), b ≤ bestOf num rest b ∧ (∀ x ∈ rest, num x ≤ bestOf num rest b) ∧ (bestOf num rest b = b ∨ ∃ x ∈ rest, num x = bestOf num rest b)
 | [], b => ⟨Int.le_refl _, by simp, .inl rfl⟩
 | y :: rest, b => by
  obtain ⟨h1, h2, h3⟩ := bestOf_spec num rest (mx b (num y))
  obtain ⟨m1, m2, m3⟩ := mx_le b (num y)
  have he : bestOf num (y :: rest) b = bestOf num rest (mx b (num y)) := rfl
  rw [he]
  refine ⟨by omega, ?_, ?_⟩
  ·
   intro x hx
   rcases List.mem_cons.1 hx with rfl | hx
   ·
    omega
   ·
    exact h2 x hx
  ·
   rcases h3 with h3 | ⟨x, hx, h3⟩
   ·
    rcases m3 with m3 | m3
    ·
     exact .inl (h3.trans m3)
    ·
     exact .inr ⟨y, List.mem_cons_self, by rw [h3, m3]⟩
   ·
    exact .inr ⟨x, List.mem_cons_of_mem _ hx, h3⟩
def fallP (num : Int → Int) : Nat → List Int → List (List Int)
 | 0, _ => []
 | d + 1, rest => if rest = [] then [] else rest.filter (fun x => decide (num x = bestOf num rest (-1))) :: fallP num d (rest.filter (fun x => !decide (num x = bestOf num rest (-1))))
theorem fallP_nil (num : Int → Int) (d : Nat) : fallP num d [] = [] := by cases d <;> simp [fallP]
theorem filter_short (num : Int → Int) (rest : List Int) (hn : rest ≠ []) (h0 : ∀ x, 0 ≤ num x) :
  (rest.filter (fun x => !decide (num x = bestOf num rest (-1)))).length < rest.length ∧ rest.filter (fun x => decide (num x = bestOf num rest (-1))) ≠ [] ∧ 0 ≤ bestOf num rest (-1) := by
 obtain ⟨h1, h2, h3⟩ := bestOf_spec num rest (-1)
 obtain ⟨y, hy⟩ := List.exists_mem_of_ne_nil rest hn
 have hb : 0 ≤ bestOf num rest (-1) := Int.le_trans (h0 y) (h2 y hy)
 rcases h3 with h3 | ⟨x, hx, h3⟩
 ·
  omega
 ·
  refine ⟨?_, ?_, hb⟩
  ·
   refine List.length_filter_lt_length_iff_exists.2 ⟨x, hx, by simp [h3]⟩
  ·
   exact List.ne_nil_of_mem (List.mem_filter.2 ⟨hx, by simp [h3]⟩)
section
variable (num : Int → Int) (a : Int) (l : List S85) (code : Int) (group : List Int)
theorem fall_l1 (hnum : ∀ x, league_table_number.f a l code x group = some (num x)) (out : List (List Int)) (rest : List Int) (hr : rest.length ≤ 1000) (R : List (List Int)) : ∀ (d i : Nat) (b : Int), rest.length - i = d → i ≤ rest.length →
  Ev (fun k => league_table_fall.l2 k group out (bestOf num (rest.drop i) b) [] [] rest (rest.length : Int) 0 a l code) R → Ev (fun k => league_table_fall.l1 k group out rest b rest (rest.length : Int) (i : Int) a l code) R := by
 intro d
 induction d with
 | zero =>
  intro i b hd hi H
  obtain rfl : i = rest.length := by omega
  rw [List.drop_length] at H
  refine Ev.step (fun k => ?_) H
  simp only [league_table_fall.l1]
  rw [if_neg (by omega)]
  rfl
 | succ d ih =>
  intro i b hd hi H
  rw [dropI rest i (by omega)] at H
  refine Ev.step (fun k => ?_) (ih (i + 1) (mx b (num (rd rest (i : Int)))) (by omega) (by omega) H)
  simp only [league_table_fall.l1]
  rw [if_pos (by omega), if_pos (by omega), if_pos (by omega), hnum, Option.bind_some, greatest_two, Option.bind_some, wrapN i (by omega)]
theorem fall_l2 (hnum : ∀ x, league_table_number.f a l code x group = some (num x)) (out : List (List Int)) (ho : out.length ≤ 1000) (b : Int) (rest : List Int) (hr : rest.length ≤ 1000) (R : List (List Int)) : ∀ (d i : Nat) (p q : List Int), rest.length - i = d → i ≤ rest.length → p.length ≤ i → q.length ≤ i →
  Ev (fun k => league_table_fall.l0 k group (out ++ [p ++ (rest.drop i).filter (fun x => decide (num x = b))]) (q ++ (rest.drop i).filter (fun x => !decide (num x = b))) a l code) R →
  Ev (fun k => league_table_fall.l2 k group out b p q rest (rest.length : Int) (i : Int) a l code) R := by
 intro d
 induction d with
 | zero =>
  intro i p q hd hi hp hq H
  obtain rfl : i = rest.length := by omega
  rw [List.drop_length] at H
  simp only [List.filter_nil, List.append_nil] at H
  refine Ev.step (fun k => ?_) H
  simp only [league_table_fall.l2]
  rw [if_neg (by omega), if_pos (by omega)]
 | succ d ih =>
  intro i p q hd hi hp hq H
  rw [dropI rest i (by omega)] at H
  by_cases hx : num (rd rest (i : Int)) = b
  ·
   rw [List.filter_cons_of_pos (by simpa using hx), List.filter_cons_of_neg (by simpa using hx)] at H
   refine Ev.step (fun k => ?_) (ih (i + 1) (p ++ [rd rest (i : Int)]) q (by omega) (by omega) (by simp; omega) (by omega) (by simpa using H))
   simp only [league_table_fall.l2]
   rw [if_pos (by omega), if_pos (by omega), if_pos (by omega), hnum, Option.bind_some, if_pos hx, if_pos (by omega), wrapN i (by omega)]
  ·
   rw [List.filter_cons_of_neg (by simpa using hx), List.filter_cons_of_pos (by simpa using hx)] at H
   refine Ev.step (fun k => ?_) (ih (i + 1) p (q ++ [rd rest (i : Int)]) (by omega) (by omega) (by omega) (by simp; omega) (by simpa using H))
   simp only [league_table_fall.l2]
   rw [if_pos (by omega), if_pos (by omega), if_pos (by omega), hnum, Option.bind_some, if_neg hx, if_pos (by omega), wrapN i (by omega)]
theorem fall_l0 (hnum : ∀ x, league_table_number.f a l code x group = some (num x)) (h0 : ∀ x, 0 ≤ num x) : ∀ (d : Nat) (rest : List Int) (out : List (List Int)), rest.length ≤ d → out.length + d ≤ 1000 →
  Ev (fun k => league_table_fall.l0 k group out rest a l code) (out ++ fallP num d rest) := by
 intro d
 induction d with
 | zero =>
  intro rest out hr ho
  obtain rfl := List.eq_nil_of_length_eq_zero (by omega : rest.length = 0)
  rw [fallP_nil, List.append_nil]
  refine Ev.step (f := fun _ => some out) (fun k => ?_) (Ev.now _)
  simp only [league_table_fall.l0]
  rw [if_neg (by simp)]
 | succ d ih =>
  intro rest out hr ho
  by_cases hn : rest = []
  ·
   subst hn
   rw [fallP_nil, List.append_nil]
   refine Ev.step (f := fun _ => some out) (fun k => ?_) (Ev.now _)
   simp only [league_table_fall.l0]
   rw [if_neg (by simp)]
  ·
   obtain ⟨s1, s2, s3⟩ := filter_short num rest hn h0
   have hl : 0 < rest.length := List.length_pos_iff.2 hn
   refine Ev.step (f := fun k => league_table_fall.l1 k group out rest (-1) rest (rest.length : Int) 0 a l code) (fun k => ?_) ?_
   ·
    simp only [league_table_fall.l0]
    rw [if_pos (by omega)]
   ·
    refine fall_l1 num a l code group hnum out rest (by omega) _ rest.length 0 (-1) rfl (Nat.zero_le _) ?_
    rw [List.drop_zero]
    refine fall_l2 num a l code group hnum out (by omega) _ rest (by omega) _ rest.length 0 [] [] rfl (Nat.zero_le _) (Nat.zero_le _) (Nat.zero_le _) ?_
    rw [List.drop_zero, List.nil_append, List.nil_append]
    have := ih (rest.filter (fun x => !decide (num x = bestOf num rest (-1)))) (out ++ [rest.filter (fun x => decide (num x = bestOf num rest (-1)))]) (by omega) (by simp; omega)
    have he : fallP num (d + 1) rest = rest.filter (fun x => decide (num x = bestOf num rest (-1))) :: fallP num d (rest.filter (fun x => !decide (num x = bestOf num rest (-1)))) := by
     rw [fallP, if_neg hn]
    rw [he]
    simpa using this
end
theorem fall_ev (num : Int → Int) (a : Int) (l : List S85) (code : Int) (group : List Int) (hg : group.length ≤ 100) (hnum : ∀ x, league_table_number.f a l code x group = some (num x)) (h0 : ∀ x, 0 ≤ num x) :
  Ev (fun k => league_table_fall.f k a l code group) (fallP num group.length group) := by
 unfold league_table_fall.f slices_Clone_int_int.f
 rw [if_pos (by omega)]
 have := fall_l0 num a l code group hnum h0 group.length group [] (Nat.le_refl _) (by simp; omega)
 rw [List.nil_append] at this
 exact this
section
variable (num : Int → Int) (a : Int) (l : List S70) (code : Int) (group : List Int)
end
theorem filter_split {α : Type} (p : α → Bool) : ∀ (l : List α), (l.filter p).length + (l.filter (fun x => !p x)).length = l.length
 | [] => rfl
 | x :: l => by
  have := filter_split p l
  cases h : p x <;> simp [List.filter_cons, h] <;> omega
theorem mem_sum : ∀ (gs : List (List Int)) (g : List Int), g ∈ gs → g.length ≤ (gs.map List.length).sum
 | x :: gs, g, h => by
  rw [List.map_cons, List.sum_cons]
  rcases List.mem_cons.1 h with rfl | h
  ·
   omega
  ·
   have := mem_sum gs g h
   omega
theorem take_sum : ∀ (gs : List (List Int)) (i : Nat), ((gs.take i).map List.length).sum ≤ (gs.map List.length).sum
 | [], i => by simp
 | g :: gs, 0 => by simp
 | g :: gs, i + 1 => by
  rw [List.take_succ_cons, List.map_cons, List.map_cons, List.sum_cons, List.sum_cons]
  have := take_sum gs i
  omega
theorem fallP_inv (num : Int → Int) (h0 : ∀ x, 0 ≤ num x) : ∀ (d : Nat) (rest : List Int), ((fallP num d rest).map List.length).sum ≤ rest.length ∧ ∀ g ∈ fallP num d rest, g ≠ [] ∧ ∀ x ∈ g, x ∈ rest
 | 0, rest => by simp [fallP]
 | d + 1, rest => by
  by_cases hn : rest = []
  ·
   subst hn
   rw [fallP_nil]
   simp
  ·
   obtain ⟨s1, s2, s3⟩ := filter_short num rest hn h0
   rw [fallP, if_neg hn]
   obtain ⟨i1, i2⟩ := fallP_inv num h0 d (rest.filter (fun x => !decide (num x = bestOf num rest (-1))))
   have hs : (rest.filter (fun x => decide (num x = bestOf num rest (-1)))).length + (rest.filter (fun x => !decide (num x = bestOf num rest (-1)))).length = rest.length := by
    exact filter_split _ rest
   refine ⟨?_, ?_⟩
   ·
    rw [List.map_cons, List.sum_cons]
    omega
   ·
    intro g hg
    rcases List.mem_cons.1 hg with rfl | hg
    ·
     exact ⟨s2, fun x hx => (List.mem_filter.1 hx).1⟩
    ·
     exact ⟨(i2 g hg).1, fun x hx => (List.mem_filter.1 ((i2 g hg).2 x hx)).1⟩
def okGroups (n : Int) (gs : List (List Int)) : Prop := (gs.map List.length).sum ≤ 6 ∧ ∀ g ∈ gs, g ≠ [] ∧ ∀ x ∈ g, 0 ≤ x ∧ x < n
theorem sum_ge_len : ∀ (gs : List (List Int)), (∀ g ∈ gs, g ≠ []) → gs.length ≤ (gs.map List.length).sum
 | [], _ => Nat.zero_le _
 | g :: gs, h => by
  rw [List.length_cons, List.map_cons, List.sum_cons]
  have := sum_ge_len gs (fun x hx => h x (List.mem_cons_of_mem _ hx))
  have := List.length_pos_iff.2 (h g List.mem_cons_self)
  omega
theorem okGroups_len {n : Int} {gs : List (List Int)} (h : okGroups n gs) : gs.length ≤ 6 ∧ ∀ g ∈ gs, g.length ≤ 6 := by
 refine ⟨Nat.le_trans (sum_ge_len gs fun g hg => (h.2 g hg).1) h.1, fun g hg => ?_⟩
 have : g.length ≤ (gs.map List.length).sum := by
  exact mem_sum gs g hg
 exact Nat.le_trans this h.1
def fallAll (num : List Int → Int → Int) (gs : List (List Int)) : List (List Int) := gs.flatMap fun g => fallP (num g) g.length g
theorem fallAll_sum (num : List Int → Int → Int) (h0 : ∀ g x, 0 ≤ num g x) : ∀ (gs : List (List Int)), ((fallAll num gs).map List.length).sum ≤ (gs.map List.length).sum
 | [] => Nat.le_refl _
 | g :: gs => by
  have := fallAll_sum num h0 gs
  have h1 := (fallP_inv (num g) (h0 g) g.length g).1
  unfold fallAll at this ⊢
  rw [List.flatMap_cons, List.map_append, List.sum_append, List.map_cons, List.sum_cons]
  omega
theorem fallAll_ok {n : Int} (num : List Int → Int → Int) (h0 : ∀ g x, 0 ≤ num g x) {gs : List (List Int)} (h : okGroups n gs) : okGroups n (fallAll num gs) := by
 refine ⟨Nat.le_trans (fallAll_sum num h0 gs) h.1, fun g hg => ?_⟩
 obtain ⟨g', h1, h2⟩ := List.mem_flatMap.1 hg
 obtain ⟨i1, i2⟩ := (fallP_inv (num g') (h0 g') g'.length g').2 g h2
 exact ⟨i1, fun x hx => (h.2 g' h1).2 x (i2 x hx)⟩
def numOf (l : List S85) (code : Int) (g : List Int) (x : Int) : Int := numF (ruleFn code) (sidesOf x l) g
def groupsOf (l : List S85) (rules : List Int) (gs : List (List Int)) : List (List Int) := rules.foldl (fun gs r => fallAll (numOf l r) gs) gs
def setAll (out : List Int) (g : List Int) (r : Int) : List Int := g.foldl (fun o x => o.set x.toNat r) out
def outsOf : List (List Int) → List Int → Int → List Int
 | [], out, _ => out
 | g :: gs, out, r => outsOf gs (setAll out g r) (r + g.length)
theorem setAll_len : ∀ (g : List Int) (out : List Int) (r : Int), (setAll out g r).length = out.length
 | [], out, r => rfl
 | x :: g, out, r => (setAll_len g (out.set x.toNat r) r).trans List.length_set
def teamsL (n : Int) : List Int := (List.range n.toNat).map fun (i : Nat) => (i : Int)
theorem rdL3 (gs : List (List Int)) (i : Nat) (h : i < gs.length) : gs.drop i = rd_L3 gs (i : Int) :: gs.drop (i + 1) := by
 rw [List.drop_eq_getElem_cons h]
 congr 1
 unfold rd_L3
 rw [Int.toNat_natCast, List.getD_eq_getElem?_getD, List.getElem?_eq_getElem h, Option.getD_some]
theorem mem_drop_of {α : Type} {l : List α} {i : Nat} {x : α} {ys : List α} (h : l.drop i = x :: ys) : x ∈ l := List.mem_of_mem_drop (i := i) (by rw [h]; exact List.mem_cons_self)
section
variable (n : Int) (l : List S85) (n2 : 2 ≤ n) (n6 : n ≤ 6)
include n2 n6
theorem Rank_l4 (gs : List (List Int)) (j : Int) (g : List Int) (hg : g.length ≤ 1000) (hgx : ∀ x ∈ g, 0 ≤ x ∧ x < n) (r : Int) (R : List Int × Int) : ∀ (d i : Nat) (out : List Int), g.length - i = d → i ≤ g.length → out.length = n.toNat →
  Ev (fun k => league_Rank.l3 k (setAll out (g.drop i) r) (wrap64 (r + (g.length : Int))) gs (gs.length : Int) (wrap64 (j + 1))) R → Ev (fun k => league_Rank.l4 k out r g gs (gs.length : Int) j g (g.length : Int) (i : Int)) R := by
 intro d
 induction d with
 | zero =>
  intro i out hd hi ho H
  obtain rfl : i = g.length := by omega
  rw [List.drop_length] at H
  refine Ev.step (fun k => ?_) H
  simp only [league_Rank.l4]
  rw [if_neg (by omega)]
  rfl
 | succ d ih =>
  intro i out hd hi ho H
  have hx := hgx _ (mem_drop_of (dropI g i (by omega)))
  rw [dropI g i (by omega)] at H
  refine Ev.step (fun k => ?_) (ih (i + 1) (out.set (rd g (i : Int)).toNat r) (by omega) (by omega) (by rw [List.length_set]; exact ho) H)
  simp only [league_Rank.l4]
  rw [if_pos (by omega), if_pos (by omega), if_pos (by omega), if_pos hx.1, if_pos (by omega), wrapN i (by omega)]
theorem Rank_l3 (gs : List (List Int)) (hgs : okGroups n gs) : ∀ (d i : Nat) (out : List Int) (r : Int), gs.length - i = d → i ≤ gs.length → out.length = n.toNat → 0 ≤ r → r + 6 * (gs.length - i : Nat) ≤ 1000 →
  Ev (fun k => league_Rank.l3 k out r gs (gs.length : Int) (i : Int)) (outsOf (gs.drop i) out r, 0) := by
 intro d
 induction d with
 | zero =>
  intro i out r hd hi ho hr hr2
  obtain rfl : i = gs.length := by omega
  rw [List.drop_length]
  refine Ev.step (f := fun _ => some (out, 0)) (fun k => ?_) (Ev.now _)
  simp only [league_Rank.l3]
  rw [if_neg (by omega)]
 | succ d ih =>
  intro i out r hd hi ho hr hr2
  have hl := okGroups_len hgs
  have hm := mem_drop_of (rdL3 gs i (by omega))
  have hgl := hl.2 _ hm
  rw [rdL3 gs i (by omega)]
  refine Ev.step (f := fun k => league_Rank.l4 k out r (rd_L3 gs (i : Int)) gs (gs.length : Int) (i : Int) (rd_L3 gs (i : Int)) ((rd_L3 gs (i : Int)).length : Int) ((0 : Nat) : Int)) (fun k => ?_) ?_
  ·
   simp only [league_Rank.l3]
   rw [if_pos (by omega), if_pos (by omega), if_pos (by omega)]
   rfl
  ·
   refine Rank_l4 n n2 n6 gs (i : Int) (rd_L3 gs (i : Int)) (by omega) (hgs.2 _ hm).2 r _ _ 0 out rfl (Nat.zero_le _) ho ?_
   rw [List.drop_zero, IntWalk.wrap64_in _ ⟨by omega, by omega⟩, wrapN i (by omega)]
   exact ih (i + 1) _ _ (by omega) (by omega) (by rw [setAll_len]; exact ho) (by omega) (by omega)
theorem Rank_l2 (hl : ∀ g ∈ l, gameB n g = true) (hll : l.length ≤ 20) (rules : List Int) (j : Int) (code : Int) (gs : List (List Int)) (hgs : okGroups n gs) (R : List Int × Int) : ∀ (d i : Nat) (acc : List (List Int)), gs.length - i = d → i ≤ gs.length → acc = fallAll (numOf l code) (gs.take i) →
  Ev (fun k => league_Rank.l1 k (acc ++ fallAll (numOf l code) (gs.drop i)) rules (rules.length : Int) (wrap64 (j + 1)) n l n l) R →
  Ev (fun k => league_Rank.l2 k code acc rules (rules.length : Int) j gs (gs.length : Int) (i : Int) n l n l) R := by
 have h0 : ∀ g x, 0 ≤ numOf l code g x := fun g x => (numF_bound (ruleFn code) x n g l hll hl).1
 intro d
 induction d with
 | zero =>
  intro i acc hd hi ha H
  obtain rfl : i = gs.length := by omega
  rw [List.drop_length] at H
  refine Ev.step (fun k => ?_) H
  simp only [league_Rank.l2]
  rw [if_neg (by omega)]
  simp [fallAll]
 | succ d ih =>
  intro i acc hd hi ha H
  have hm := mem_drop_of (rdL3 gs i (by omega))
  have hlg := okGroups_len hgs
  have hgl := hlg.2 _ hm
  obtain ⟨g, hg⟩ : ∃ g, rd_L3 gs (i : Int) = g := ⟨_, rfl⟩
  have hdr := rdL3 gs i (by omega)
  rw [hg] at hdr hm hgl
  rw [hdr] at H
  have htk : gs.take (i + 1) = gs.take i ++ [g] := by
   rw [List.take_succ_eq_append_getElem (by omega)]
   congr 2
   rw [← hg]
   unfold rd_L3
   rw [Int.toNat_natCast, List.getD_eq_getElem?_getD, List.getElem?_eq_getElem (by omega), Option.getD_some]
  have hacc : (acc ++ fallP (numOf l code g) g.length g) = fallAll (numOf l code) (gs.take (i + 1)) := by
   rw [htk, ha]
   simp [fallAll, List.flatMap_append]
  have hlen : acc.length + (fallP (numOf l code g) g.length g).length ≤ 6 := by
   rw [← List.length_append, hacc]
   have hok : okGroups n (gs.take (i + 1)) := ⟨Nat.le_trans (take_sum gs (i + 1)) hgs.1, fun x hx => hgs.2 x (List.mem_of_mem_take hx)⟩
   exact (okGroups_len (fallAll_ok _ h0 hok)).1
  refine Ev.step (f := fun k => (league_table_fall.f k n l code g).bind fun t => if acc.length + t.length < 5864062014805 then league_Rank.l2 k code (acc ++ t) rules (rules.length : Int) j gs (gs.length : Int) ((i + 1 : Nat) : Int) n l n l else none) (fun k => ?_) ?_
  ·
   simp only [league_Rank.l2]
   rw [if_pos (by omega), if_pos (by omega), if_pos (by omega), hg, wrapN i (by omega)]
   rfl
  ·
   refine Ev.bind (fall_ev (numOf l code g) n l code g (by omega) (fun x => rfl) (h0 g)) ?_
   simp only [if_pos (by omega : acc.length + (fallP (numOf l code g) g.length g).length < 5864062014805)]
   refine ih (i + 1) _ (by omega) (by omega) hacc ?_
   simpa [fallAll] using H
theorem Rank_l1 (hl : ∀ g ∈ l, gameB n g = true) (hll : l.length ≤ 20) (rules : List Int) (hr : rules.length ≤ 1000) : ∀ (d i : Nat) (gs : List (List Int)), rules.length - i = d → i ≤ rules.length → okGroups n gs →
  Ev (fun k => league_Rank.l1 k gs rules (rules.length : Int) (i : Int) n l n l) (outsOf (groupsOf l (rules.drop i) gs) (List.replicate n.toNat 0) 1, 0) := by
 intro d
 induction d with
 | zero =>
  intro i gs hd hi hgs
  obtain rfl : i = rules.length := by omega
  rw [List.drop_length]
  refine Ev.step (f := fun k => league_Rank.l3 k (List.replicate n.toNat 0) 1 gs (gs.length : Int) 0) (fun k => ?_) ?_
  ·
   simp only [league_Rank.l1]
   rw [if_neg (by omega), if_pos (by omega), if_pos (by omega)]
  ·
   have := Rank_l3 n n2 n6 gs hgs gs.length 0 (List.replicate n.toNat 0) 1 rfl (Nat.zero_le _) List.length_replicate (by decide) (by have := (okGroups_len hgs).1; omega)
   rw [List.drop_zero] at this
   exact this
 | succ d ih =>
  intro i gs hd hi hgs
  have h0 : ∀ g x, 0 ≤ numOf l (rd rules (i : Int)) g x := fun g x => (numF_bound (ruleFn (rd rules (i : Int))) x n g l hll hl).1
  rw [dropI rules i (by omega)]
  refine Ev.step (f := fun k => league_Rank.l2 k (rd rules (i : Int)) [] rules (rules.length : Int) (i : Int) gs (gs.length : Int) ((0 : Nat) : Int) n l n l) (fun k => ?_) ?_
  ·
   simp only [league_Rank.l1]
   rw [if_pos (by omega), if_pos (by omega), if_pos (by omega)]
   rfl
  ·
   refine Rank_l2 n l n2 n6 hl hll rules (i : Int) (rd rules (i : Int)) gs hgs _ gs.length 0 [] rfl (Nat.zero_le _) (by simp [fallAll]) ?_
   rw [List.drop_zero, List.nil_append, wrapN i (by omega)]
   exact ih (i + 1) _ (by omega) (by omega) (fallAll_ok _ h0 hgs)
theorem teams_ok : okGroups n [teamsL n] := by
 refine ⟨?_, ?_⟩
 ·
  simp [teamsL]
  omega
 ·
  intro g hg
  rw [List.mem_singleton] at hg
  subst hg
  refine ⟨?_, fun x hx => ?_⟩
  ·
   intro h
   have : (teamsL n).length = n.toNat := by simp [teamsL]
   rw [h] at this
   simp at this
   omega
  ·
   obtain ⟨i, hi, rfl⟩ := List.mem_map.1 hx
   have := List.mem_range.1 hi
   omega
theorem Rank_l0 (rules : List Int) : ∃ c, ∀ k, league_Rank.l0 (k + c) rules (List.replicate n.toNat 0) n 0 n l n l = league_Rank.l1 k [teamsL n] rules (rules.length : Int) 0 n l n l := by
 have : n = 2 ∨ n = 3 ∨ n = 4 ∨ n = 5 ∨ n = 6 := by omega
 rcases this with rfl | rfl | rfl | rfl | rfl
 ·
  exact ⟨3, fun k => by kernel_rfl⟩
 ·
  exact ⟨4, fun k => by kernel_rfl⟩
 ·
  exact ⟨5, fun k => by kernel_rfl⟩
 ·
  exact ⟨6, fun k => by kernel_rfl⟩
 ·
  exact ⟨7, fun k => by kernel_rfl⟩
end
theorem Ev.shift {α : Type} {g f : Nat → Option α} {r : α} (c : Nat) (h : ∀ k, g (k + c) = f k) (k : Ev f r) : Ev g r := by
 obtain ⟨K, k⟩ := k
 refine ⟨K + c, fun n hn => ?_⟩
 obtain ⟨m, rfl⟩ : ∃ m, n = m + c := ⟨n - c, by omega⟩
 rw [h]
 exact k m (by omega)
def rankOf (n : Int) (l : List S85) (rules : List Int) : List Int := outsOf (groupsOf l rules [teamsL n]) (List.replicate n.toNat 0) 1
def rankF (n : Int) (l : List S85) (rules : List Int) : List Int × Int :=
 if checkF n l ≠ 0 then ([], checkF n l) else if 6 < rules.length then ([], 3) else if rules.all ruleB = true then (rankOf n l rules, 0) else ([], 2)
theorem Rank_ev (n : Int) (l : List S85) (rules : List Int) : Ev (fun k => league_Rank.f k n l rules) (rankF n l rules) := by
 unfold league_Rank.f rankF league_CheckLeague.f league_all_uint8.f
 simp only [Option.bind_some]
 by_cases hc : checkF n l = 0
 ·
  simp only [hc, if_true, ne_eq, not_true_eq_false, if_false]
  obtain ⟨h20, n2, n6, hok⟩ := check_ok hc
  by_cases h6 : 6 < rules.length
  ·
   simp only [if_pos h6, if_pos (show (rules.length : Int) > 6 by omega)]
   exact Ev.now _
  ·
   simp only [if_neg h6, if_neg (show ¬ (rules.length : Int) > 6 by omega)]
   by_cases hr : rules.all ruleB = true
   ·
    simp only [if_pos hr, if_pos (show (0 : Int) ≤ n by omega), if_pos (show n.toNat ≤ 35184372088832 by omega)]
    obtain ⟨c, hcc⟩ := Rank_l0 n l n2 n6 rules
    refine Ev.shift c hcc ?_
    have := Rank_l1 n l n2 n6 hok h20 rules (by omega) rules.length 0 [teamsL n] rfl (Nat.zero_le _) (teams_ok n n2 n6)
    rw [List.drop_zero] at this
    exact this
   ·
    simp only [if_neg hr]
    exact Ev.now _
 ·
  simp only [if_neg hc, ne_eq, hc, not_false_eq_true, if_true]
  exact Ev.now _
section
variable (n : Int) (l : List S70) (n2 : 2 ≤ n) (n6 : n ≤ 6)
include n2 n6
end
end Go.Proofs.Ytmnamkcjldaoeaa.PAll
namespace Go.Proofs.Ytmnamkcjldaoeaa.PAll
open Go.RowKit Go.Proofs.YtmnamkcjldaoeaaW.PrintWords Go.Proofs.YtmnamkcjldaoeaaW.PrintLast Go.Proofs.YtmnamkcjldaoeaaW.PrintMore
set_option linter.unusedVariables false
set_option linter.unusedSimpArgs false
set_option linter.unusedSectionVars false
def rk : List (List Int) → Int → Int → Int
 | [], _, _ => 0
 | g :: gs, r, x => if x ∈ g then r else rk gs (r + g.length) x
theorem rk_cons (g : List Int) (gs : List (List Int)) (r x : Int) : rk (g :: gs) r x = if x ∈ g then r else rk gs (r + g.length) x := rfl
theorem rk_ge : ∀ (gs : List (List Int)) (r x : Int), x ∈ gs.flatten → r ≤ rk gs r x
 | g :: gs, r, x, h => by
  rw [rk_cons]
  by_cases hg : x ∈ g
  ·
   rw [if_pos hg]
   exact Int.le_refl _
  ·
   rw [if_neg hg]
   have h2 : x ∈ gs.flatten := by
    rw [List.flatten_cons] at h
    exact (List.mem_append.1 h).resolve_left hg
   have := rk_ge gs (r + g.length) x h2
   omega
theorem setAll_get : ∀ (g : List Int) (out : List Int) (r : Int) (x : Int), (∀ y ∈ g, 0 ≤ y ∧ y < out.length) → 0 ≤ x → (setAll out g r).getD x.toNat 0 = if x ∈ g then r else out.getD x.toNat 0
 | [], out, r, x, _, _ => by simp [setAll]
 | y :: g, out, r, x, hg, hx => by
  have hy := hg y List.mem_cons_self
  have he : setAll out (y :: g) r = setAll (out.set y.toNat r) g r := rfl
  rw [he, setAll_get g (out.set y.toNat r) r x (fun z hz => by rw [List.length_set]; exact hg z (List.mem_cons_of_mem _ hz)) hx]
  by_cases h1 : x ∈ g
  ·
   rw [if_pos h1, if_pos (List.mem_cons_of_mem _ h1)]
  ·
   rw [if_neg h1]
   by_cases h2 : x = y
   ·
    subst h2
    rw [if_pos List.mem_cons_self, List.getD_eq_getElem?_getD, List.getElem?_set_self (by omega), Option.getD_some]
   ·
    rw [if_neg (fun h => (List.mem_cons.1 h).elim h2 h1), List.getD_eq_getElem?_getD, List.getElem?_set_ne (by omega), ← List.getD_eq_getElem?_getD]
theorem outs_get : ∀ (gs : List (List Int)) (out : List Int) (r x : Int), gs.flatten.Nodup → (∀ y ∈ gs.flatten, 0 ≤ y ∧ y < out.length) → 0 ≤ x → (outsOf gs out r).getD x.toNat 0 = if x ∈ gs.flatten then rk gs r x else out.getD x.toNat 0
 | [], out, r, x, _, _, _ => by simp [outsOf]
 | g :: gs, out, r, x, hn, hb, hx => by
  rw [List.flatten_cons] at hn hb ⊢
  obtain ⟨n1, n2, n3⟩ := List.nodup_append.1 hn
  have he : outsOf (g :: gs) out r = outsOf gs (setAll out g r) (r + g.length) := rfl
  have hb1 : ∀ y ∈ g, 0 ≤ y ∧ y < out.length := fun y hy => hb y (List.mem_append_left _ hy)
  rw [he, outs_get gs (setAll out g r) (r + g.length) x n2 (fun y hy => by rw [setAll_len]; exact hb y (List.mem_append_right _ hy)) hx]
  rw [rk_cons]
  by_cases h1 : x ∈ gs.flatten
  ·
   have h2 : ¬ x ∈ g := fun h => n3 x h x h1 rfl
   rw [if_pos h1, if_pos (List.mem_append_right _ h1), if_neg h2]
  ·
   rw [if_neg h1, setAll_get g out r x hb1 hx]
   by_cases h2 : x ∈ g
   ·
    rw [if_pos h2, if_pos (List.mem_append_left _ h2), if_pos h2]
   ·
    rw [if_neg h2, if_neg (fun h => (List.mem_append.1 h).elim h2 h1)]
theorem rk_cnt : ∀ (gs : List (List Int)) (r t : Int), (∀ g ∈ gs, g ≠ []) → gs.flatten.Nodup → t ∈ gs.flatten → ((gs.flatten.filter fun o => decide (rk gs r o < rk gs r t)).length : Int) = rk gs r t - r
 | g :: gs, r, t, hn, hd, ht => by
  rw [List.flatten_cons] at hd ht
  obtain ⟨n1, n2, n3⟩ := List.nodup_append.1 hd
  have hge : ∀ o ∈ gs.flatten, r + g.length ≤ rk gs (r + g.length) o := fun o ho => rk_ge gs _ o ho
  have hgp := List.length_pos_iff.2 (hn g List.mem_cons_self)
  have e1 : ∀ o ∈ g, rk (g :: gs) r o = r := fun o ho => by rw [rk_cons, if_pos ho]
  have e2 : ∀ o ∈ gs.flatten, rk (g :: gs) r o = rk gs (r + g.length) o := fun o ho => by rw [rk_cons, if_neg (fun h => n3 o h o ho rfl)]
  rw [List.flatten_cons, List.filter_append, List.length_append]
  by_cases htg : t ∈ g
  ·
   rw [e1 t htg]
   have f1 : g.filter (fun o => decide (rk (g :: gs) r o < r)) = [] := List.filter_eq_nil_iff.2 fun o ho => by rw [e1 o ho]; simp
   have f2 : gs.flatten.filter (fun o => decide (rk (g :: gs) r o < r)) = [] := List.filter_eq_nil_iff.2 fun o ho => by
    rw [e2 o ho]
    have := hge o ho
    simp
    omega
   rw [f1, f2]
   simp
  ·
   have htg2 : t ∈ gs.flatten := (List.mem_append.1 ht).resolve_left htg
   rw [e2 t htg2]
   have hgt := hge t htg2
   have f1 : g.filter (fun o => decide (rk (g :: gs) r o < rk gs (r + g.length) t)) = g := List.filter_eq_self.2 fun o ho => by
    rw [e1 o ho]
    simp
    omega
   have f2 : gs.flatten.filter (fun o => decide (rk (g :: gs) r o < rk gs (r + g.length) t)) = gs.flatten.filter (fun o => decide (rk gs (r + g.length) o < rk gs (r + g.length) t)) := List.filter_congr fun o ho => by rw [e2 o ho]
   have ih := rk_cnt gs (r + g.length) t (fun y hy => hn y (List.mem_cons_of_mem _ hy)) n2 htg2
   rw [f1, f2]
   push_cast
   omega
theorem rk_same : ∀ (gs : List (List Int)) (r o t : Int), (∀ g ∈ gs, g ≠ []) → o ∈ gs.flatten → t ∈ gs.flatten → rk gs r o = rk gs r t → ∃ g ∈ gs, o ∈ g ∧ t ∈ g
 | g :: gs, r, o, t, hn, ho, ht, h => by
  rw [List.flatten_cons] at ho ht
  rw [rk_cons, rk_cons] at h
  have hgp := List.length_pos_iff.2 (hn g List.mem_cons_self)
  by_cases h1 : o ∈ g
  ·
   by_cases h2 : t ∈ g
   ·
    exact ⟨g, List.mem_cons_self, h1, h2⟩
   ·
    rw [if_pos h1, if_neg h2] at h
    have := rk_ge gs (r + g.length) t ((List.mem_append.1 ht).resolve_left h2)
    omega
  ·
   have ho2 := (List.mem_append.1 ho).resolve_left h1
   by_cases h2 : t ∈ g
   ·
    rw [if_neg h1, if_pos h2] at h
    have := rk_ge gs (r + g.length) o ho2
    omega
   ·
    rw [if_neg h1, if_neg h2] at h
    obtain ⟨g', q1, q2⟩ := rk_same gs (r + g.length) o t (fun y hy => hn y (List.mem_cons_of_mem _ hy)) ho2 ((List.mem_append.1 ht).resolve_left h2) h
    exact ⟨g', List.mem_cons_of_mem _ q1, q2⟩
theorem filter_perm {α : Type} (p : α → Bool) : ∀ (l : List α), (l.filter p ++ l.filter (fun x => !p x)).Perm l
 | [] => List.Perm.refl _
 | x :: l => by
  have ih := filter_perm p l
  cases h : p x with
  | true =>
   rw [List.filter_cons_of_pos (by simpa using h), List.filter_cons_of_neg (by simp [h])]
   exact List.Perm.cons x ih
  | false =>
   rw [List.filter_cons_of_neg (by simp [h]), List.filter_cons_of_pos (by simp [h])]
   exact List.perm_middle.trans (List.Perm.cons x ih)
section
variable (num : Int → Int) (h0 : ∀ x, 0 ≤ num x)
include h0
theorem fallP_perm : ∀ (d : Nat) (rest : List Int), rest.length ≤ d → ((fallP num d rest).flatten).Perm rest
 | 0, rest, h => by
  obtain rfl := List.eq_nil_of_length_eq_zero (by omega : rest.length = 0)
  exact List.Perm.refl _
 | d + 1, rest, h => by
  by_cases hn : rest = []
  ·
   subst hn
   rw [fallP_nil]
   exact List.Perm.refl _
  ·
   obtain ⟨s1, s2, s3⟩ := filter_short num rest hn h0
   rw [fallP, if_neg hn, List.flatten_cons]
   exact (List.Perm.append_left _ (fallP_perm d _ (by omega))).trans (filter_perm _ rest)
theorem fallP_same : ∀ (d : Nat) (rest : List Int), ∀ g ∈ fallP num d rest, ∀ x ∈ g, ∀ y ∈ g, num x = num y
 | 0, rest, g, hg, _, _, _, _ => by simp [fallP] at hg
 | d + 1, rest, g, hg, x, hx, y, hy => by
  by_cases hn : rest = []
  ·
   subst hn
   rw [fallP_nil] at hg
   cases hg
  ·
   rw [fallP, if_neg hn] at hg
   rcases List.mem_cons.1 hg with rfl | hg
   ·
    have h1 := (List.mem_filter.1 hx).2
    have h2 := (List.mem_filter.1 hy).2
    simp only [decide_eq_true_eq] at h1 h2
    rw [h1, h2]
   ·
    exact fallP_same d _ g hg x hx y hy
end
section
variable (num : List Int → Int → Int) (h0 : ∀ g x, 0 ≤ num g x)
include h0
theorem fallAll_perm : ∀ (gs : List (List Int)), ((fallAll num gs).flatten).Perm gs.flatten
 | [] => List.Perm.refl _
 | g :: gs => by
  have ih := fallAll_perm gs
  unfold fallAll at ih ⊢
  rw [List.flatMap_cons, List.flatten_append, List.flatten_cons]
  exact (fallP_perm (num g) (h0 g) g.length g (Nat.le_refl _)).append ih
theorem fallAll_ne (gs : List (List Int)) : ∀ g ∈ fallAll num gs, g ≠ [] := by
 intro g hg
 obtain ⟨g', h1, h2⟩ := List.mem_flatMap.1 hg
 exact ((fallP_inv (num g') (h0 g') g'.length g').2 g h2).1
end
section
variable (n : Int) (l : List S85) (hll : l.length ≤ 20) (hl : ∀ g ∈ l, gameB n g = true)
include hll hl
theorem numOf_nonneg (code : Int) (g : List Int) (x : Int) : 0 ≤ numOf l code g x := (numF_bound (ruleFn code) x n g l hll hl).1
theorem groups_inv : ∀ (rules : List Int) (gs : List (List Int)), (∀ g ∈ gs, g ≠ []) → ((groupsOf l rules gs).flatten).Perm gs.flatten ∧ ∀ g ∈ groupsOf l rules gs, g ≠ []
 | [], gs, hne => ⟨List.Perm.refl _, hne⟩
 | r :: rules, gs, hne => by
  have h0 := fun g x => numOf_nonneg n l hll hl r g x
  obtain ⟨i1, i2⟩ := groups_inv rules (fallAll (numOf l r) gs) (fallAll_ne (numOf l r) h0 gs)
  exact ⟨i1.trans (fallAll_perm (numOf l r) h0 gs), i2⟩
def sameBy (l : List S85) (code : Int) (gs : List (List Int)) : Prop := ∀ g ∈ gs, ∀ x ∈ g, ∀ y ∈ g, numOf l code [] x = numOf l code [] y
theorem sameBy_fall (code c : Int) (gs : List (List Int)) (h : sameBy l code gs) : sameBy l code (fallAll (numOf l c) gs) := by
 intro g hg x hx y hy
 obtain ⟨g', h1, h2⟩ := List.mem_flatMap.1 hg
 have hs := ((fallP_inv (numOf l c g') (fun x => numOf_nonneg n l hll hl c g' x) g'.length g').2 g h2).2
 exact h g' h1 x (hs x hx) y (hs y hy)
theorem sameBy_groups (code : Int) : ∀ (rules : List Int) (gs : List (List Int)), sameBy l code gs → sameBy l code (groupsOf l rules gs)
 | [], gs, h => h
 | r :: rules, gs, h => sameBy_groups code rules _ (sameBy_fall n l hll hl code r gs h)
theorem numF_group (f : Nat) (hf : f ≠ 90) (x : Int) (g : List Int) : numF f (sidesOf x l) g = numF f (sidesOf x l) [] := by
 unfold numF
 congr 1
 funext s p
 unfold ruleVal
 rw [if_neg hf, if_neg hf]
theorem sameBy_rule (code : Int) (hc : code ≠ 3) : ∀ (rules : List Int) (gs : List (List Int)), code ∈ rules → sameBy l code (groupsOf l rules gs)
 | r :: rules, gs, hm => by
  rcases List.mem_cons.1 hm with rfl | hm
  ·
   refine sameBy_groups n l hll hl code rules _ ?_
   intro g hg x hx y hy
   obtain ⟨g', h1, h2⟩ := List.mem_flatMap.1 hg
   have := fallP_same (numOf l code g') (fun x => numOf_nonneg n l hll hl code g' x) g'.length g' g h2 x hx y hy
   have hf : ruleFn code ≠ 90 := by
    unfold ruleFn
    by_cases c1 : code = 1
    ·
     simp [c1]
    ·
     by_cases c2 : code = 2
     ·
      simp [c2]
     ·
      simp [c1, c2, hc]
   unfold numOf at this ⊢
   rw [numF_group n l hll hl _ hf x g', numF_group n l hll hl _ hf y g'] at this
   exact this
  ·
   exact sameBy_rule code hc rules _ hm
end
theorem teams_nodup (n : Int) : (teamsL n).Nodup := by
 unfold teamsL List.Nodup
 rw [List.pairwise_map]
 exact (List.nodup_range (n := n.toNat)).imp fun h e => h (by omega)
theorem mem_teams (n t : Int) : t ∈ teamsL n ↔ 0 ≤ t ∧ t < n := by
 unfold teamsL
 rw [List.mem_map]
 constructor
 ·
  rintro ⟨i, hi, rfl⟩
  have := List.mem_range.1 hi
  omega
 ·
  rintro ⟨h1, h2⟩
  exact ⟨t.toNat, List.mem_range.2 (by omega), by omega⟩
structure RankLaw (n : Int) (l : List S85) (rules : List Int) (A : Int → Int) : Prop where
 get : ∀ t, 0 ≤ t → t < n → rd (rankOf n l rules) t = A t
 cnt : ∀ t, 0 ≤ t → t < n → (((teamsL n).filter fun o => decide (A o < A t)).length : Int) = A t - 1
 same : ∀ code ∈ rules, code ≠ 3 → ∀ o t, 0 ≤ o → o < n → 0 ≤ t → t < n → A o = A t → numOf l code [] o = numOf l code [] t
theorem rank_law {n : Int} {l : List S85} (hc : checkF n l = 0) (rules : List Int) : RankLaw n l rules (rk (groupsOf l rules [teamsL n]) 1) := by
 obtain ⟨h20, n2, n6, hok⟩ := check_ok hc
 have ht := teams_ok n n2 n6
 have hne : ∀ g ∈ [teamsL n], g ≠ [] := fun g hg => (ht.2 g hg).1
 obtain ⟨p1, p2⟩ := groups_inv n l h20 hok rules [teamsL n] hne
 have p1 : ((groupsOf l rules [teamsL n]).flatten).Perm (teamsL n) := by simpa using p1
 have hnd := p1.nodup_iff.2 (teams_nodup n)
 have hmem : ∀ t, t ∈ (groupsOf l rules [teamsL n]).flatten ↔ 0 ≤ t ∧ t < n := fun t => p1.mem_iff.trans (mem_teams n t)
 refine ⟨?_, ?_, ?_⟩
 ·
  intro t t0 t1
  unfold rd rankOf
  rw [outs_get _ _ 1 t hnd (fun y hy => by have := (hmem y).1 hy; rw [List.length_replicate]; omega) t0, if_pos ((hmem t).2 ⟨t0, t1⟩)]
 ·
  intro t t0 t1
  have := rk_cnt (groupsOf l rules [teamsL n]) 1 t p2 hnd ((hmem t).2 ⟨t0, t1⟩)
  rw [← this]
  exact congrArg (fun (x : Nat) => (x : Int)) ((p1.filter _).length_eq).symm
 ·
  intro code hcm hc3 o t o0 o1 t0 t1 h
  obtain ⟨g, hg, q1, q2⟩ := rk_same _ 1 o t p2 ((hmem o).2 ⟨o0, o1⟩) ((hmem t).2 ⟨t0, t1⟩) h
  exact sameBy_rule n l h20 hok code hc3 rules [teamsL n] hcm g hg o q1 t q2
end Go.Proofs.Ytmnamkcjldaoeaa.PAll
namespace Go.Proofs.Ytmnamkcjldaoeaa.PAll
open Go.RowKit Go.Proofs.YtmnamkcjldaoeaaW.PrintWords Go.Proofs.YtmnamkcjldaoeaaW.PrintLast Go.Proofs.YtmnamkcjldaoeaaW.PrintMore
set_option linter.unusedVariables false
set_option linter.unusedSimpArgs false
set_option linter.unusedSectionVars false
def valG (f : Nat) (t : Int) (grp : List Int) (g : S85) : Int := if g.f1 = t then ruleVal f ⟨g.f0, (givesF g).2, g.f3⟩ grp else if g.f0 = t then ruleVal f ⟨g.f1, (givesF g).1, g.f2⟩ grp else 0
def sumBy (F : S85 → Int) (l : List S85) : Int := (l.map F).sum
theorem sumBy_cons (F : S85 → Int) (g : S85) (l : List S85) : sumBy F (g :: l) = F g + sumBy F l := by simp [sumBy]
theorem sumBy_turn (F : S85 → Int) (l : List S85) (k : Nat) : sumBy F (l.drop k ++ l.take k) = sumBy F l := by
 have h : sumBy F (l.take k ++ l.drop k) = sumBy F l := by rw [List.take_append_drop]
 rw [← h]
 unfold sumBy
 simp only [List.map_append, List.sum_append]
 omega
theorem valG_range (f : Nat) (t n : Int) (grp : List Int) (g : S85) (hg : gameB n g = true) : 0 ≤ valG f t grp g ∧ valG f t grp g ≤ 3000 := by
 unfold valG
 split
 ·
  exact ruleVal_range f g n hg _ _ _ (.inr ⟨rfl, rfl⟩) grp
 ·
  split
  ·
   exact ruleVal_range f g n hg _ _ _ (.inl ⟨rfl, rfl⟩) grp
  ·
   omega
theorem numF_sum (f : Nat) (t n : Int) (grp : List Int) : ∀ (l : List S85) (s : Int), (∀ g ∈ l, gameB n g = true) → 0 ≤ s → s + 3000 * l.length ≤ 1000000000 → l.foldl (stepN f t grp) s = s + sumBy (valG f t grp) l
 | [], s, _, _, _ => by simp [sumBy]
 | g :: l, s, hg, h0, hs => by
  rw [List.length_cons] at hs
  push_cast at hs
  have hgb := hg g List.mem_cons_self
  have hne := ((gameB_iff n g).1 hgb).2.2.2.2.1
  have hv := valG_range f t n grp g hgb
  have e : stepN f t grp s g = s + valG f t grp g := by
   unfold stepN
   unfold valG at hv ⊢
   rw [sidesG_of t g hne]
   by_cases h1 : g.f1 = t
   ·
    rw [if_pos h1] at hv ⊢
    rw [if_pos h1]
    show wrap64 (s + ruleVal f ⟨g.f0, (givesF g).2, g.f3⟩ grp) = _
    exact IntWalk.wrap64_in _ ⟨by omega, by omega⟩
   ·
    rw [if_neg h1] at hv ⊢
    rw [if_neg h1]
    by_cases h2 : g.f0 = t
    ·
     rw [if_pos h2] at hv ⊢
     rw [if_pos h2]
     show wrap64 (s + ruleVal f ⟨g.f1, (givesF g).1, g.f2⟩ grp) = _
     exact IntWalk.wrap64_in _ ⟨by omega, by omega⟩
    ·
     rw [if_neg h2, if_neg h2]
     show s = s + 0
     omega
  rw [List.foldl_cons, e, numF_sum f t n grp l _ (fun x hx => hg x (List.mem_cons_of_mem _ hx)) (by omega) (by omega), sumBy_cons]
  omega
theorem numOf_sum {n : Int} {l : List S85} (hc : checkF n l = 0) (code : Int) (grp : List Int) (t : Int) : numOf l code grp t = sumBy (valG (ruleFn code) t grp) l := by
 obtain ⟨h20, n2, n6, hok⟩ := check_ok hc
 unfold numOf
 rw [numF_step, numF_sum (ruleFn code) t n grp l 0 hok (Int.le_refl _) (by omega)]
 omega
theorem openG_sum (F : S85 → Int) : ∀ l : List S85, ((openG l).map F).sum = sumBy (fun g => if g.f4 = true then F g else 0) l
 | [] => rfl
 | g :: l => by
  rw [openG_cons, sumBy_cons, ← openG_sum F l]
  by_cases h : g.f4 = true
  ·
   rw [if_pos h, if_pos h, List.map_cons, List.sum_cons]
  ·
   rw [if_neg h, if_neg h]
   omega
structure Renum (n : Int) (σ τ : Int → Int) : Prop where
 a : ∀ u, 0 ≤ u → u < n → (0 ≤ σ u ∧ σ u < n) ∧ τ (σ u) = u
 b : ∀ u, 0 ≤ u → u < n → (0 ≤ τ u ∧ τ u < n) ∧ σ (τ u) = u
def Sim (σ : Int → Int) (g g' : S85) : Prop := g'.f4 = g.f4 ∧ ((g'.f0 = σ g.f0 ∧ g'.f1 = σ g.f1 ∧ g'.f2 = g.f2 ∧ g'.f3 = g.f3) ∨ (g'.f0 = σ g.f1 ∧ g'.f1 = σ g.f0 ∧ g'.f2 = g.f3 ∧ g'.f3 = g.f2))
def Sims (σ : Int → Int) : List S85 → List S85 → Prop
 | [], [] => True
 | g :: l, g' :: l' => Sim σ g g' ∧ Sims σ l l'
 | _, _ => False
theorem Sims.len {σ : Int → Int} : ∀ {l l' : List S85}, Sims σ l l' → l'.length = l.length
 | [], [], _ => rfl
 | g :: l, g' :: l', h => by rw [List.length_cons, List.length_cons, h.2.len]
 | [], _ :: _, h => h.elim
 | _ :: _, [], h => h.elim
theorem Sims.sum {σ : Int → Int} {F F' : S85 → Int} : ∀ {l l' : List S85}, Sims σ l l' → (∀ g ∈ l, ∀ g', Sim σ g g' → F' g' = F g) → sumBy F' l' = sumBy F l
 | [], [], _, _ => rfl
 | g :: l, g' :: l', h, hF => by rw [sumBy_cons, sumBy_cons, hF g List.mem_cons_self g' h.1, Sims.sum h.2 (fun x hx => hF x (List.mem_cons_of_mem _ hx))]
 | [], _ :: _, h, _ => h.elim
 | _ :: _, [], h, _ => h.elim
theorem Sims.all {σ : Int → Int} {p p' : S85 → Prop} : ∀ {l l' : List S85}, Sims σ l l' → (∀ g ∈ l, ∀ g', Sim σ g g' → p' g') → ∀ g' ∈ l', p' g'
 | [], [], _, _ => fun g' h => by cases h
 | g :: l, g' :: l', h, hF => fun x hx => by
  rcases List.mem_cons.1 hx with rfl | hx
  ·
   exact hF g List.mem_cons_self _ h.1
  ·
   exact Sims.all (p := p) h.2 (fun y hy => hF y (List.mem_cons_of_mem _ hy)) x hx
 | [], _ :: _, h, _ => h.elim
 | _ :: _, [], h, _ => h.elim
def Alike (n : Int) (σ : Int → Int) (l l' : List S85) : Prop := ∃ k, Sims σ (l.drop k ++ l.take k) l'
theorem mem_turn {l : List S85} {k : Nat} {g : S85} (h : g ∈ l.drop k ++ l.take k) : g ∈ l := by
 rcases List.mem_append.1 h with h | h
 ·
  exact List.mem_of_mem_drop h
 ·
  exact List.mem_of_mem_take h
theorem gives_sim {σ : Int → Int} {g g' : S85} (h : Sim σ g g') : (g'.f0 = σ g.f0 ∧ g'.f1 = σ g.f1 ∧ g'.f2 = g.f2 ∧ g'.f3 = g.f3 ∧ (givesF g').1 = (givesF g).1 ∧ (givesF g').2 = (givesF g).2) ∨ (g'.f0 = σ g.f1 ∧ g'.f1 = σ g.f0 ∧ g'.f2 = g.f3 ∧ g'.f3 = g.f2 ∧ (givesF g').1 = (givesF g).2 ∧ (givesF g').2 = (givesF g).1) := by
 obtain ⟨h4, h | h⟩ := h
 ·
  refine .inl ⟨h.1, h.2.1, h.2.2.1, h.2.2.2, ?_, ?_⟩ <;> unfold givesF <;> rw [h4, h.2.2.1, h.2.2.2]
 ·
  refine .inr ⟨h.1, h.2.1, h.2.2.1, h.2.2.2, ?_, ?_⟩ <;> unfold givesF <;> rw [h4, h.2.2.1, h.2.2.2]
  all_goals
   by_cases c4 : g.f4 = true
   ·
    simp [c4]
   ·
    by_cases c1 : g.f2 > g.f3
    ·
     have c2 : ¬ g.f3 > g.f2 := by omega
     have c3 : g.f3 < g.f2 := by omega
     simp [c4, c1, c2, c3]
    ·
     by_cases c2 : g.f2 < g.f3
     ·
      have c3 : g.f3 > g.f2 := by omega
      simp [c4, c1, c2, c3]
     ·
      have c3 : ¬ g.f3 > g.f2 := by omega
      have c5 : ¬ g.f3 < g.f2 := by omega
      simp [c4, c1, c2, c3, c5]
section
variable {n : Int} {σ τ : Int → Int} (R : Renum n σ τ) {l l' : List S85} (hc : checkF n l = 0) (hA : Alike n σ l l')
include R
theorem Renum.inj (u v : Int) (u0 : 0 ≤ u) (un : u < n) (v0 : 0 ≤ v) (vn : v < n) : σ u = σ v ↔ u = v :=
 ⟨fun h => by rw [← (R.a u u0 un).2, ← (R.a v v0 vn).2, h], fun h => by rw [h]⟩
include hc hA
theorem alike_check : checkF n l' = 0 := by
 obtain ⟨h20, n2, n6, hok⟩ := check_ok hc
 obtain ⟨k, hS⟩ := hA
 have hlen : l'.length = l.length := by
  rw [hS.len, List.length_append, List.length_drop, List.length_take]
  omega
 unfold checkF
 rw [if_neg (by omega), List.all_eq_true.2 (Sims.all (p := fun _ => True) hS (fun g hg g' hs => by
  have hb := (gameB_iff n g).1 (hok g (mem_turn hg))
  obtain ⟨p1, p2, ⟨a0, a1⟩, ⟨b0, b1⟩, hne, ho⟩ := hb
  have hi := R.inj g.f0 g.f1 a0 a1 b0 b1
  have ra := (R.a g.f0 a0 a1).1
  have rb := (R.a g.f1 b0 b1).1
  refine (gameB_iff n g').2 ?_
  obtain ⟨h4, ⟨e0, e1, e2, e3⟩ | ⟨e0, e1, e2, e3⟩⟩ := hs
  ·
   rw [e0, e1, e2, e3, h4]
   exact ⟨p1, p2, ra, rb, fun h => hne (hi.1 h), ho⟩
  ·
   rw [e0, e1, e2, e3, h4]
   exact ⟨p2, p1, rb, ra, fun h => hne (hi.1 h.symm), fun h => ⟨(ho h).2, (ho h).1⟩⟩))]
 unfold teamsB
 rw [decide_eq_true n2, decide_eq_true n6]
 rfl
theorem alike_val (f : Nat) (t : Int) (t0 : 0 ≤ t) (tn : t < n) (grp grp' : List Int) (hG : ∀ u, 0 ≤ u → u < n → (u ∈ grp ↔ σ u ∈ grp')) : sumBy (valG f (σ t) grp') l' = sumBy (valG f t grp) l := by
 obtain ⟨k, hS⟩ := hA
 rw [← sumBy_turn (valG f t grp) l k]
 refine Sims.sum hS (fun g hg g' hs => ?_)
 have hb := (gameB_iff n g).1 ((check_ok hc).2.2.2 g (mem_turn hg))
 obtain ⟨_, _, ⟨a0, a1⟩, ⟨b0, b1⟩, hne, _⟩ := hb
 have i0 := R.inj g.f0 t a0 a1 t0 tn
 have i1 := R.inj g.f1 t b0 b1 t0 tn
 have hrv : ∀ (q pt pn : Int), 0 ≤ q → q < n → ruleVal f ⟨σ q, pt, pn⟩ grp' = ruleVal f ⟨q, pt, pn⟩ grp := by
  intro q pt pn q0 qn
  have hm : grp'.contains (σ q) = grp.contains q := by
   rw [Bool.eq_iff_iff, List.contains_iff_mem, List.contains_iff_mem]
   exact (hG q q0 qn).symm
  unfold ruleVal
  simp only [hm]
 unfold valG
 rcases gives_sim hs with ⟨e0, e1, e2, e3, e4, e5⟩ | ⟨e0, e1, e2, e3, e4, e5⟩
 ·
  rw [e0, e1, e2, e3, e4, e5, hrv g.f0 _ _ a0 a1, hrv g.f1 _ _ b0 b1]
  simp only [i0, i1]
 ·
  rw [e0, e1, e2, e3, e4, e5, hrv g.f0 _ _ a0 a1, hrv g.f1 _ _ b0 b1]
  simp only [i0, i1]
  by_cases c0 : g.f0 = t
  ·
   have c1 : ¬ g.f1 = t := fun h => hne (c0.trans h.symm)
   rw [if_pos c0, if_neg c1, if_pos c0]
  ·
   rw [if_neg c0, if_neg c0]
theorem alike_num (code : Int) (t : Int) (t0 : 0 ≤ t) (tn : t < n) (grp grp' : List Int) (hG : ∀ u, 0 ≤ u → u < n → (u ∈ grp ↔ σ u ∈ grp')) : numOf l' code grp' (σ t) = numOf l code grp t := by
 rw [numOf_sum (alike_check R hc hA), numOf_sum hc]
 exact alike_val R hc hA _ t t0 tn grp grp' hG
theorem alike_sums (t : Int) (t0 : 0 ≤ t) (tn : t < n) : (sumsF l').getD (σ t).toNat 0 = (sumsF l).getD t.toNat 0 := by
 rw [← num_sums (alike_check R hc hA) (σ t) (R.a t t0 tn).1.1, ← num_sums hc t t0]
 exact alike_num R hc hA 1 t t0 tn [] [] (fun u _ _ => by simp)
theorem alike_reach (t : Int) (t0 : 0 ≤ t) (tn : t < n) : reachF l' (σ t) = reachF l t := by
 rw [reach_eq (alike_check R hc hA), reach_eq hc, alike_sums R hc hA t t0 tn]
 have : openWith (openG l') (σ t) = openWith (openG l) t := by
  unfold openWith
  rw [openG_sum, openG_sum]
  obtain ⟨k, hS⟩ := hA
  rw [← sumBy_turn _ l k]
  refine Sims.sum hS (fun g hg g' hs => ?_)
  have hb := (gameB_iff n g).1 ((check_ok hc).2.2.2 g (mem_turn hg))
  obtain ⟨_, _, ⟨a0, a1⟩, ⟨b0, b1⟩, hne, _⟩ := hb
  have i0 := R.inj g.f0 t a0 a1 t0 tn
  have i1 := R.inj g.f1 t b0 b1 t0 tn
  obtain ⟨h4, ⟨e0, e1, _⟩ | ⟨e0, e1, _⟩⟩ := hs
  ·
   simp only [h4, e0, e1, i0, i1]
  ·
   simp only [h4, e0, e1, i0, i1]
   simp only [or_comm (a := g.f1 = t)]
 rw [this]
theorem alike_both (M : List Int) (hM : ∀ u ∈ M, 0 ≤ u ∧ u < n) : bothS (M.map σ) (openG l') = bothS M (openG l) := by
 unfold bothS
 rw [openG_sum, openG_sum]
 obtain ⟨k, hS⟩ := hA
 rw [← sumBy_turn _ l k]
 refine Sims.sum hS (fun g hg g' hs => ?_)
 have hb := (gameB_iff n g).1 ((check_ok hc).2.2.2 g (mem_turn hg))
 obtain ⟨_, _, ⟨a0, a1⟩, ⟨b0, b1⟩, hne, _⟩ := hb
 have hm : ∀ q, 0 ≤ q → q < n → (σ q ∈ M.map σ ↔ q ∈ M) := by
  intro q q0 qn
  rw [List.mem_map]
  constructor
  ·
   rintro ⟨u, hu, e⟩
   have := hM u hu
   rw [(R.inj u q this.1 this.2 q0 qn).1 e] at hu
   exact hu
  ·
   exact fun h => ⟨q, h, rfl⟩
 obtain ⟨h4, ⟨e0, e1, _⟩ | ⟨e0, e1, _⟩⟩ := hs
 ·
  simp only [h4, e0, e1, hm g.f0 a0 a1, hm g.f1 b0 b1]
 ·
  simp only [h4, e0, e1, hm g.f0 a0 a1, hm g.f1 b0 b1]
  simp only [and_comm (a := g.f1 ∈ M)]
end
theorem can_lists {n : Int} {l : List S85} (hc : checkF n l = 0) (t : Int) (t0 : 0 ≤ t) (tn : t < n) :
  (canF n l t).1 = false ↔ ∃ M : List Int, M.Nodup ∧ M.length ≤ 100 ∧ (∀ u ∈ M, 0 ≤ u ∧ u < n) ∧ ruledF (reachF l t) (sumsF l) (openG l) M = true := by
 obtain ⟨_, n2, n6, _⟩ := check_ok hc
 constructor
 ·
  intro h
  rcases can_first hc t t0 tn with h1 | ⟨_, _, _, L, hL, hT, hr⟩
  ·
   rw [h1.1] at h
   cases h
  ·
   obtain ⟨N, rfl⟩ : ∃ N : Nat, n = N := ⟨n.toNat, by omega⟩
   obtain ⟨T, rfl⟩ : ∃ T : Nat, t = T := ⟨t.toNat, by omega⟩
   rw [Int.toNat_natCast] at hL
   obtain ⟨g1, g2, g3, _⟩ := good_ok N T (by omega) (by omega) L hL hT
   exact ⟨L, g1, by omega, fun u hu => ⟨(g3 u hu).1, (g3 u hu).2.1⟩, hr⟩
 ·
  rintro ⟨M, h1, h2, h3, h4⟩
  rcases can_first hc t t0 tn with ⟨_, _, _, o1, o2, o3⟩ | h
  ·
   obtain ⟨u, hu, hlt⟩ := ruled_more hc t t0 M h1 (fun u hu => (h3 u hu).1) h2 h4 _ o1 o2
   have := o3 u (h3 u hu).1 (by have := (h3 u hu).2; omega)
   omega
  ·
   exact h.1
section
variable {n : Int} {σ τ : Int → Int} (R : Renum n σ τ) {l l' : List S85} (hc : checkF n l = 0) (hA : Alike n σ l l')
include R hc hA
theorem alike_ruled (t : Int) (t0 : 0 ≤ t) (tn : t < n) (M : List Int) (hl : M.length ≤ 100) (hM : ∀ u ∈ M, 0 ≤ u ∧ u < n) :
  ruledF (reachF l' (σ t)) (sumsF l') (openG l') (M.map σ) = true ↔ ruledF (reachF l t) (sumsF l) (openG l) M = true := by
 rw [ruled_iff (alike_check R hc hA) (σ t) (M.map σ) (by rw [List.length_map]; exact hl), ruled_iff hc t M hl, alike_reach R hc hA t t0 tn, alike_both R hc hA M hM, List.length_map, List.map_map]
 have : (M.map ((fun t => (sumsF l').getD t.toNat 0) ∘ σ)).sum = (M.map fun t => (sumsF l).getD t.toNat 0).sum := sum_congr' M (fun u hu => alike_sums R hc hA u (hM u hu).1 (hM u hu).2)
 rw [this]
 constructor
 ·
  rintro ⟨h1, h2⟩
  exact ⟨fun e => h1 (by rw [e]; rfl), h2⟩
 ·
  rintro ⟨h1, h2⟩
  exact ⟨fun e => h1 (List.map_eq_nil_iff.1 e), h2⟩
theorem alike_can (t : Int) (t0 : 0 ≤ t) (tn : t < n) : (canF n l' (σ t)).1 = (canF n l t).1 := by
 have rt := (R.a t t0 tn).1
 have key : (canF n l' (σ t)).1 = false ↔ (canF n l t).1 = false := by
  rw [can_lists (alike_check R hc hA) (σ t) rt.1 rt.2, can_lists hc t t0 tn]
  constructor
  ·
   rintro ⟨M, h1, h2, h3, h4⟩
   have hb : ∀ u ∈ M.map τ, 0 ≤ u ∧ u < n := by
    intro u hu
    obtain ⟨v, hv, rfl⟩ := List.mem_map.1 hu
    exact (R.b v (h3 v hv).1 (h3 v hv).2).1
   have hmm : (M.map τ).map σ = M := by
    rw [List.map_map]
    have : ∀ M : List Int, (∀ u ∈ M, 0 ≤ u ∧ u < n) → M.map (σ ∘ τ) = M := by
     intro M
     induction M with
     | nil => intro _; rfl
     | cons v M ih =>
      intro h
      rw [List.map_cons, ih (fun u hu => h u (List.mem_cons_of_mem _ hu))]
      show σ (τ v) :: M = v :: M
      rw [(R.b v (h v List.mem_cons_self).1 (h v List.mem_cons_self).2).2]
    exact this M h3
   refine ⟨M.map τ, ?_, by rw [List.length_map]; exact h2, hb, ?_⟩
   ·
    unfold List.Nodup at h1 ⊢
    rw [List.pairwise_map]
    refine h1.imp_of_mem fun {u v} hu hv hne e => hne ?_
    rw [← (R.b u (h3 u hu).1 (h3 u hu).2).2, ← (R.b v (h3 v hv).1 (h3 v hv).2).2, e]
   ·
    refine (alike_ruled R hc hA t t0 tn (M.map τ) (by rw [List.length_map]; exact h2) hb).1 ?_
    rw [hmm]
    exact h4
  ·
   rintro ⟨M, h1, h2, h3, h4⟩
   refine ⟨M.map σ, ?_, by rw [List.length_map]; exact h2, ?_, (alike_ruled R hc hA t t0 tn M h2 h3).2 h4⟩
   ·
    unfold List.Nodup at h1 ⊢
    rw [List.pairwise_map]
    exact h1.imp_of_mem fun {u v} hu hv hne e => hne ((R.inj u v (h3 u hu).1 (h3 u hu).2 (h3 v hv).1 (h3 v hv).2).1 e)
   ·
    intro u hu
    obtain ⟨v, hv, rfl⟩ := List.mem_map.1 hu
    exact (R.a v (h3 v hv).1 (h3 v hv).2).1
 cases h1 : (canF n l' (σ t)).1 <;> cases h2 : (canF n l t).1
 ·
  rfl
 ·
  rw [key.1 h1] at h2
  cases h2
 ·
  rw [key.2 h2] at h1
  cases h1
 ·
  rfl
end
def GrS (n : Int) (σ : Int → Int) : List (List Int) → List (List Int) → Prop
 | [], [] => True
 | g :: gs, g' :: gs' => ((∀ u ∈ g, 0 ≤ u ∧ u < n) ∧ g'.Perm (g.map σ)) ∧ GrS n σ gs gs'
 | _, _ => False
theorem GrS.app {n : Int} {σ : Int → Int} : ∀ {a a' b b' : List (List Int)}, GrS n σ a a' → GrS n σ b b' → GrS n σ (a ++ b) (a' ++ b')
 | [], [], _, _, _, h => h
 | g :: a, g' :: a', _, _, h, hb => ⟨h.1, GrS.app h.2 hb⟩
 | [], _ :: _, _, _, h, _ => h.elim
 | _ :: _, [], _, _, h, _ => h.elim
section
variable {n : Int} {σ τ : Int → Int} (R : Renum n σ τ)
include R
theorem mem_perm {g g' : List Int} (hg : ∀ u ∈ g, 0 ≤ u ∧ u < n) (hp : g'.Perm (g.map σ)) (u : Int) (u0 : 0 ≤ u) (un : u < n) : u ∈ g ↔ σ u ∈ g' := by
 rw [hp.mem_iff, List.mem_map]
 constructor
 ·
  exact fun h => ⟨u, h, rfl⟩
 ·
  rintro ⟨v, hv, e⟩
  have := hg v hv
  rw [(R.inj v u this.1 this.2 u0 un).1 e] at hv
  exact hv
theorem rk_alike : ∀ (gs gs' : List (List Int)) (r x : Int), GrS n σ gs gs' → 0 ≤ x → x < n → rk gs' r (σ x) = rk gs r x
 | [], [], _, _, _, _, _ => rfl
 | g :: gs, g' :: gs', r, x, h, x0, xn => by
  have hm := mem_perm R h.1.1 h.1.2 x x0 xn
  have hl : g'.length = g.length := by rw [h.1.2.length_eq, List.length_map]
  rw [rk_cons, rk_cons, hl, rk_alike gs gs' (r + g.length) x h.2 x0 xn]
  by_cases c : x ∈ g
  ·
   rw [if_pos c, if_pos (hm.1 c)]
  ·
   rw [if_neg c, if_neg (fun h => c (hm.2 h))]
 | [], _ :: _, _, _, h, _, _ => h.elim
 | _ :: _, [], _, _, h, _, _ => h.elim
theorem best_alike (num num' : Int → Int) (hn : ∀ u, 0 ≤ u → u < n → num' (σ u) = num u) (g g' : List Int) (hg : ∀ u ∈ g, 0 ≤ u ∧ u < n) (hp : g'.Perm (g.map σ)) : bestOf num' g' (-1) = bestOf num g (-1) := by
 obtain ⟨a1, a2, a3⟩ := bestOf_spec num g (-1)
 obtain ⟨b1, b2, b3⟩ := bestOf_spec num' g' (-1)
 have h1 : bestOf num g (-1) ≤ bestOf num' g' (-1) := by
  rcases a3 with a3 | ⟨x, hx, a3⟩
  ·
   omega
  ·
   rw [← a3, ← hn x (hg x hx).1 (hg x hx).2]
   exact b2 _ ((mem_perm R hg hp x (hg x hx).1 (hg x hx).2).1 hx)
 have h2 : bestOf num' g' (-1) ≤ bestOf num g (-1) := by
  rcases b3 with b3 | ⟨x, hx, b3⟩
  ·
   omega
  ·
   obtain ⟨u, hu, rfl⟩ := List.mem_map.1 (hp.mem_iff.1 hx)
   rw [← b3, hn u (hg u hu).1 (hg u hu).2]
   exact a2 u hu
 omega
theorem fall_alike (num num' : Int → Int) (hn : ∀ u, 0 ≤ u → u < n → num' (σ u) = num u) : ∀ (d : Nat) (g g' : List Int), (∀ u ∈ g, 0 ≤ u ∧ u < n) → g'.Perm (g.map σ) → GrS n σ (fallP num d g) (fallP num' d g')
 | 0, _, _, _, _ => trivial
 | d + 1, g, g', hg, hp => by
  have hb := best_alike R num num' hn g g' hg hp
  by_cases hne : g = []
  ·
   subst hne
   have : g' = [] := List.perm_nil.1 hp
   subst this
   rw [fallP_nil, fallP_nil]
   trivial
  ·
   have hne' : g' ≠ [] := fun e => hne (List.map_eq_nil_iff.1 (List.nil_perm.1 (by rw [← e]; exact hp)))
   have hf : ∀ (p p' : Int → Bool), (∀ u, 0 ≤ u → u < n → p' (σ u) = p u) → (g'.filter p').Perm ((g.filter p).map σ) := by
    intro p p' hpp
    refine (hp.filter p').trans ?_
    rw [List.filter_map]
    have : ∀ g : List Int, (∀ u ∈ g, 0 ≤ u ∧ u < n) → g.filter (p' ∘ σ) = g.filter p := by
     intro g hg
     refine List.filter_congr fun u hu => ?_
     exact hpp u (hg u hu).1 (hg u hu).2
    rw [this g hg]
   rw [fallP, if_neg hne, fallP, if_neg hne', hb]
   refine ⟨⟨fun u hu => hg u (List.mem_filter.1 hu).1, hf _ _ (fun u u0 un => by rw [hn u u0 un])⟩, fall_alike num num' hn d _ _ (fun u hu => hg u (List.mem_filter.1 hu).1) (hf _ _ (fun u u0 un => by rw [hn u u0 un]))⟩
variable {l l' : List S85} (hc : checkF n l = 0) (hA : Alike n σ l l')
include hc hA
theorem fallAll_alike (code : Int) : ∀ (gs gs' : List (List Int)), GrS n σ gs gs' → GrS n σ (fallAll (numOf l code) gs) (fallAll (numOf l' code) gs')
 | [], [], _ => trivial
 | g :: gs, g' :: gs', h => by
  unfold fallAll
  rw [List.flatMap_cons, List.flatMap_cons]
  have hl : g'.length = g.length := by rw [h.1.2.length_eq, List.length_map]
  rw [hl]
  exact GrS.app (fall_alike R _ _ (fun u u0 un => alike_num R hc hA code u u0 un g g' (mem_perm R h.1.1 h.1.2)) g.length g g' h.1.1 h.1.2) (fallAll_alike code gs gs' h.2)
 | [], _ :: _, h => h.elim
 | _ :: _, [], h => h.elim
theorem groups_alike : ∀ (rules : List Int) (gs gs' : List (List Int)), GrS n σ gs gs' → GrS n σ (groupsOf l rules gs) (groupsOf l' rules gs')
 | [], _, _, h => h
 | r :: rules, gs, gs', h => groups_alike rules _ _ (fallAll_alike R hc hA r gs gs' h)
theorem alike_rank (rules : List Int) (t : Int) (t0 : 0 ≤ t) (tn : t < n) : rd (rankOf n l' rules) (σ t) = rd (rankOf n l rules) t := by
 have rt := (R.a t t0 tn).1
 rw [(rank_law (alike_check R hc hA) rules).get (σ t) rt.1 rt.2, (rank_law hc rules).get t t0 tn]
 refine rk_alike R _ _ 1 t (groups_alike R hc hA rules [teamsL n] [teamsL n] ⟨⟨fun u hu => (mem_teams n u).1 hu, ?_⟩, trivial⟩) t0 tn
 refine (List.perm_ext_iff_of_nodup (teams_nodup n) ?_).2 fun u => ?_
 ·
  unfold List.Nodup
  rw [List.pairwise_map]
  refine (teams_nodup n).imp_of_mem fun {u v} hu hv hne e => hne ?_
  have hu := (mem_teams n u).1 hu
  have hv := (mem_teams n v).1 hv
  exact (R.inj u v hu.1 hu.2 hv.1 hv.2).1 e
 ·
  rw [List.mem_map, mem_teams]
  constructor
  ·
   rintro ⟨u0, un⟩
   exact ⟨τ u, (mem_teams n _).2 (R.b u u0 un).1, (R.b u u0 un).2⟩
  ·
   rintro ⟨v, hv, rfl⟩
   have hv := (mem_teams n v).1 hv
   exact (R.a v hv.1 hv.2).1
end
end Go.Proofs.Ytmnamkcjldaoeaa.PAll
namespace Go.Proofs.Ytmnamkcjldaoeaa.PAll
open Go.RowKit Go.Proofs.YtmnamkcjldaoeaaW.PrintWords Go.Proofs.YtmnamkcjldaoeaaW.PrintLast Go.Proofs.YtmnamkcjldaoeaaW.PrintMore
set_option linter.unusedVariables false
set_option linter.unusedSimpArgs false
def readyB (a : Int) (l : List S70) : Bool := decide (l.length ≤ 24) && decide (checkF a (l.map toG) = 0)
theorem ready_ev (a : Int) (l : List S70) : Ev (fun k => kingpinlaw08_ready.f a l) (readyB a l) := by
 unfold kingpinlaw08_ready.f kingpinlaw08_Thin.f readyB
 simp only [Option.bind_some, decide_eq_true_eq]
 by_cases ht : l.length ≤ 24
 ·
  simp only [if_pos (show (l.length : Int) ≤ 24 by omega), decide_eq_true ht, Bool.true_and]
  exact Ev.now _
 ·
  simp only [if_neg (show ¬ (l.length : Int) ≤ 24 by omega), decide_eq_false ht, Bool.false_and]
  exact Ev.now _
end Go.Proofs.Ytmnamkcjldaoeaa.PAll
namespace Go.Proofs.Ytmnamkcjldaoeaa.PAll
open Go.RowKit Go.Proofs.YtmnamkcjldaoeaaW.PrintWords Go.Proofs.YtmnamkcjldaoeaaW.PrintLast Go.Proofs.YtmnamkcjldaoeaaW.PrintMore
set_option linter.unusedVariables false
set_option linter.unusedSimpArgs false
theorem runs_race {n : Int} {l : List S85} (hc : checkF n l = 0) (team : Int) (B b : Nat) (Ao : Option Addr) (co : Nat) (g : Value) (w : World)
  (ha : RaceAt w b team (reachF l team) (sumsF l) (.slice Ao (openG l).length co) g) (ho : Kd.C k85 w Ao (openG l).length (openG l)) (hA : ∀ ad, Ao = some ad → ad.block < b) (hB : B ≤ b)
  (r : Bool) (gv hv : List Int) (h : runsF (openG l) team (reachF l team) (sumsF l) = some (r, gv, hv)) :
  Calls Try.prog 80 #[.pointer (some ⟨b, 0, none⟩)] w fun e w' => e = .returned (.bool r) ∧ (r = true → ∃ Ag cg, RaceAt w' b team (reachF l team) (sumsF l) (.slice Ao (openG l).length co) (.slice Ag gv.length cg) ∧ Kd.C (Kd.int .i64) w' Ag gv.length gv) ∧ Below B w w' :=
 runs_calls (raceP n l team) (raceP_ok hc team) (reach_rng hc team).1 (fun t h _ => sums_zero hc t.toNat (by have : n ≤ t := h; omega)) B b Ao co g w ha ho (fun ad e => ⟨by have := hA ad e; omega, by have := hA ad e; have := ha.lt; omega⟩) hB r gv hv h
set_option maxRecDepth 100000 in
set_option maxHeartbeats 4000000 in
theorem league_CanFirst.calls (a0_0 : Int) (A0_1 : Option Addr) (c0_1 : Nat) (l0_1 : List (S85)) (a1 : Int) (r1 : Bool) (r2 : Int) (w : World) (hr0_1 : Kd.C k85 w A0_1 l0_1.length l0_1) (hc0_1 : l0_1.length ≤ c0_1) (h : league_CanFirst.f a0_0 l0_1 a1 = some (r1, r2)) :
  Calls Try.prog 43 #[.agg #[.int .i64 a0_0, .slice A0_1 l0_1.length c0_1], .int .i64 a1] w fun e w' => e = .returned (.tuple #[.bool r1, .int .i64 r2]) ∧ Below w.heap.size w w' := by
 replace h := Option.some.inj h
 unfold canF at h
 have HR := Aside0.mk hr0_1
 have HC := Aside0.mk hc0_1
 clear hr0_1 hc0_1
 have HW : Aside0 (Below w.heap.size w (w.alloc (.cells #[.int .i64 a0_0, .slice A0_1 l0_1.length c0_1] 32))) := ⟨below_alloc (Below.refl _ _) _⟩
 have HBK : Aside0 ((w.alloc (.cells #[.int .i64 a0_0, .slice A0_1 l0_1.length c0_1] 32)).heap[w.heap.size]? = some (.cells #[.int .i64 a0_0, .slice A0_1 l0_1.length c0_1] 32 (0, 0))) := ⟨blk_new _ _⟩
 by_cases h0 : askF a0_0 l0_1 a1 = 0
 rotate_left
 ·
  rw [if_neg h0] at h
  obtain ⟨rfl, h2⟩ := Prod.mk.inj h
  obtain ⟨v, hv⟩ : ∃ v, askF a0_0 l0_1 a1 = v := ⟨_, rfl⟩
  rw [hv] at h0 h2
  subst h2
  have bv : (v != 0) = true := bne_iff_ne.2 h0
  have HV := Lib.hid hv
  clear hv h0 h
  go_enter Try.func43, Try.ntmps43
  go_wp2_with (go_at_call 69; (with_reducible refine (asked_calls a0_0 _ _ l0_1 a1 _ ?hr HC.out _ HV.out).mono ?_); (case hr => exact Kd.C_alloc HR.out _); rintro e w1 ⟨rfl, hb1⟩; have HB1 := Aside0.mk hb1; clear hb1)
  go_ret2
  exact ⟨rfl, HW.out.trans (HB1.out.mono HW.out.size)⟩
 ·
  rw [if_pos h0] at h
  obtain ⟨h1, rfl⟩ := Prod.mk.inj h
  obtain ⟨hck, ht0, htn⟩ := ask_ok h0
  obtain ⟨h20, n2, n6, hok⟩ := check_ok hck
  obtain ⟨r, gv, hv, hruns, _, _⟩ := raceP_runs hck a1
  rw [hruns] at h1
  have HSO := Lib.hid (check_sound hck)
  have H0 := Lib.hid h0
  have H20 := Lib.hid h20
  have HRU := Lib.hid hruns
  have HCK := Lib.hid hck
  have HRR : Hid (r = r1) := h1
  clear h h0 hck h20 hok h1 hruns
  go_enter Try.func43, Try.ntmps43
  go_wp2_with (first
   | (go_at_call 69; (with_reducible refine (asked_calls a0_0 _ _ l0_1 a1 _ ?hr HC.out _ H0.out).mono ?_); (case hr => exact Kd.C_alloc HR.out _); rintro e w1 ⟨rfl, hb1⟩; have HG := Aside0.mk (blk_below HBK.out hb1); have HB := Aside0.mk (HW.out.trans (hb1.mono HW.out.size)); clear hb1; have g0 : w1.cell? ⟨w.heap.size, 0, none⟩ = some (.int .i64 a0_0) := (blk_cell HG.out 0).trans rfl; have g1 : w1.cell? ⟨w.heap.size, 1, none⟩ = some (.slice A0_1 l0_1.length c0_1) := (blk_cell HG.out 1).trans rfl)
   | (go_at_call 70; (with_reducible refine (race_calls a0_0 A0_1 c0_1 l0_1 a1 _ (Kd.C_below HR.out HB.out) H20.out HSO.out ht0 ?h6).mono ?_); (case h6 => omega); rintro e w6 ⟨b6, Ao, co, rfl, hb6, hra6, hro6, hao6, hbb6⟩; have HB6 := Aside0.mk (below_step HB.out hbb6); have HRA := Aside0.mk hra6; have HRO := Aside0.mk hro6; have HAO := Aside0.mk hao6; have HBB := Aside0.mk (Nat.le_trans HB.out.size hb6); clear hb6 hra6 hro6 hao6 hbb6)
   | (go_at_call 80; (with_reducible refine (runs_race HCK.out a1 w.heap.size b6 Ao co _ _ HRA.out HRO.out HAO.out HBB.out r gv hv HRU.out).mono ?_); rintro e w7 ⟨rfl, _, hb7⟩; have HB7 := Aside0.mk (HB6.out.trans hb7); clear hb7))
  go_ret2
  exact ⟨by rw [HRR.out]; rfl, HB7.out⟩
end Go.Proofs.Ytmnamkcjldaoeaa.PAll
namespace Go.Proofs.Ytmnamkcjldaoeaa.PAll
open Go.RowKit Go.Proofs.YtmnamkcjldaoeaaW.PrintWords Go.Proofs.YtmnamkcjldaoeaaW.PrintLast Go.Proofs.YtmnamkcjldaoeaaW.PrintMore
set_option linter.unusedVariables false
set_option linter.unusedSimpArgs false
theorem copy_calls (a : Int) (A : Option Addr) (c : Nat) (l : List S70) (L : List S85) (hL : l.map toG = L) (w : World) (hl : l.length ≤ 1000) (hr : Kd.C k70 w A l.length l) (hc : l.length ≤ c) :
  Calls Try.prog 18 #[.agg #[.int .i64 a, .slice A l.length c]] w fun e w' => ∃ A' c', e = .returned (.agg #[.int .i64 a, .slice A' L.length c']) ∧ Kd.C k85 w' A' L.length L ∧ L.length ≤ c' ∧ Below w.heap.size w w' := by
 subst hL
 obtain ⟨k, hk⟩ := (League_ev a l hl).rounds
 refine (kingpinlaw08_League.calls k a A c l a (l.map toG) w hr hc hk).mono ?_
 rintro e w' ⟨v, rfl, hR, hb⟩
 obtain ⟨A', c', rfl⟩ := Kd.R_slice hR
 exact ⟨A', c', rfl, (Kd.R_reads' hR).2.2, (Kd.R_reads' hR).2.1, hb⟩
theorem awake_calls' (w : World) : Calls Try.prog 16 #[] w fun e w' => e = .returned (.bool true) ∧ Below w.heap.size w w' := kingpinlaw08_awake.calls true w rfl
theorem can_calls' (a : Int) (A : Option Addr) (c : Nat) (l : List S85) (t : Int) (w : World) (hr : Kd.C k85 w A l.length l) (hc : l.length ≤ c) (r1 : Bool) (r2 : Int) (h : canF a l t = (r1, r2)) :
  Calls Try.prog 43 #[.agg #[.int .i64 a, .slice A l.length c], .int .i64 t] w fun e w' => e = .returned (.tuple #[.bool r1, .int .i64 r2]) ∧ Below w.heap.size w w' :=
 league_CanFirst.calls a A c l t r1 r2 w hr hc (congrArg some h)
end Go.Proofs.Ytmnamkcjldaoeaa.PAll
namespace Go.Proofs.Ytmnamkcjldaoeaa.PAll
open Go.RowKit Go.Proofs.YtmnamkcjldaoeaaW.PrintWords Go.Proofs.YtmnamkcjldaoeaaW.PrintLast Go.Proofs.YtmnamkcjldaoeaaW.PrintMore
set_option linter.unusedVariables false
set_option linter.unusedSimpArgs false
set_option linter.unusedSectionVars false
def swapG (g : S70) : S70 := ⟨g.f1, g.f0, g.f3, g.f2, g.f4⟩
def onT (a m u : Int) : Int := if u + m < a then u + m else u + m - a
def offT (a m v : Int) : Int := if m ≤ v then v - m else v - m + a
def onG (a m : Int) (g : S70) : S70 := ⟨onT a m g.f0, onT a m g.f1, g.f2, g.f3, g.f4⟩
def swapsX (sw : Nat → Bool) : Nat → List S70 → List S70
 | _, [] => []
 | i, g :: l => (if sw i = true then swapG g else g) :: swapsX sw (i + 1) l
theorem on_renum (a m : Int) (m0 : 0 ≤ m) (ma : m < a) : Renum a (onT a m) (offT a m) := by
 refine ⟨fun u u0 un => ?_, fun u u0 un => ?_⟩
 ·
  have h1 : 0 ≤ onT a m u ∧ onT a m u < a := by unfold onT; split <;> omega
  refine ⟨h1, ?_⟩
  unfold offT onT
  by_cases c : u + m < a
  ·
   rw [if_pos c, if_pos (by omega)]
   omega
  ·
   rw [if_neg c, if_neg (by omega)]
   omega
 ·
  have h1 : 0 ≤ offT a m u ∧ offT a m u < a := by unfold offT; split <;> omega
  refine ⟨h1, ?_⟩
  unfold offT onT
  by_cases c : m ≤ u
  ·
   rw [if_pos c, if_pos (by omega)]
   omega
  ·
   rw [if_neg c, if_neg (by omega)]
   omega
theorem id_renum (a : Int) : Renum a id id := ⟨fun u u0 un => ⟨⟨u0, un⟩, rfl⟩, fun u u0 un => ⟨⟨u0, un⟩, rfl⟩⟩
theorem on_tmod (a m u : Int) (m0 : 0 ≤ m) (ma : m < a) (u0 : 0 ≤ u) (un : u < a) : Int.tmod (u + m) a = onT a m u := by
 rw [Int.tmod_eq_emod_of_nonneg (by omega)]
 unfold onT
 by_cases c : u + m < a
 ·
  rw [if_pos c, Int.emod_eq_of_lt (by omega) c]
 ·
  rw [if_neg c]
  have : (u + m) % a = (u + m - a) % a := by rw [Int.sub_emod_right]
  rw [this, Int.emod_eq_of_lt (by omega) (by omega)]
theorem swaps_sims (sw : Nat → Bool) : ∀ (l : List S70) (i : Nat), Sims id (l.map toG) ((swapsX sw i l).map toG)
 | [], _ => trivial
 | g :: l, i => by
  rw [swapsX, List.map_cons, List.map_cons]
  refine ⟨?_, swaps_sims sw l (i + 1)⟩
  by_cases c : sw i = true
  ·
   rw [if_pos c]
   exact ⟨rfl, .inr ⟨rfl, rfl, rfl, rfl⟩⟩
  ·
   rw [if_neg c]
   exact ⟨rfl, .inl ⟨rfl, rfl, rfl, rfl⟩⟩
theorem on_sims (a m : Int) : ∀ l : List S70, Sims (onT a m) (l.map toG) ((l.map (onG a m)).map toG)
 | [] => trivial
 | g :: l => ⟨⟨rfl, .inl ⟨rfl, rfl, rfl, rfl⟩⟩, on_sims a m l⟩
theorem swaps_alike (a : Int) (sw : Nat → Bool) (l : List S70) (k : Nat) : Alike a id (l.map toG) ((swapsX sw 0 (l.drop k ++ l.take k)).map toG) := by
 refine ⟨k, ?_⟩
 rw [← List.map_drop, ← List.map_take, ← List.map_append]
 exact swaps_sims sw _ 0
theorem on_alike (a m : Int) (l : List S70) (k : Nat) : Alike a (onT a m) (l.map toG) (((l.drop k ++ l.take k).map (onG a m)).map toG) := by
 refine ⟨k, ?_⟩
 rw [← List.map_drop, ← List.map_take, ← List.map_append]
 exact on_sims a m _
theorem order_facts {a : Int} {l : List S70} (hc : checkF a (l.map toG) = 0) (sw : Nat → Bool) (k : Nat) (m : Int) (m0 : 0 ≤ m) (ma : m < a) (rules : List Int) (X Y : List S85) (hX : (swapsX sw 0 (l.drop k ++ l.take k)).map toG = X) (hY : ((l.drop k ++ l.take k).map (onG a m)).map toG = Y) :
  checkF a X = 0 ∧ checkF a Y = 0 ∧ rankOf a X rules = rankOf a (l.map toG) rules ∧ ∀ t, 0 ≤ t → t < a → rd (rankOf a Y rules) (onT a m t) = rd (rankOf a (l.map toG) rules) t ∧ (canF a X t).1 = (canF a (l.map toG) t).1 ∧ (canF a Y (onT a m t)).1 = (canF a (l.map toG) t).1 := by
 have hAx := swaps_alike a sw l k
 have hAy := on_alike a m l k
 rw [hX] at hAx
 rw [hY] at hAy
 have hRx := id_renum a
 have hRy := on_renum a m m0 ma
 have hlen : ∀ (L : List S85), (rankOf a L rules).length = a.toNat := by
  intro L
  unfold rankOf
  have : ∀ (gs : List (List Int)) (out : List Int) (r : Int), (outsOf gs out r).length = out.length := by
   intro gs
   induction gs with
   | nil => exact fun _ _ => rfl
   | cons g gs ih => exact fun out r => (ih _ _).trans (setAll_len g out r)
  rw [this, List.length_replicate]
 refine ⟨alike_check hRx hc hAx, alike_check hRy hc hAy, ?_, fun t t0 tn => ⟨alike_rank hRy hc hAy rules t t0 tn, alike_can hRx hc hAx t t0 tn, alike_can hRy hc hAy t t0 tn⟩⟩
 refine List.ext_getElem (by rw [hlen, hlen]) fun i h1 h2 => ?_
 rw [hlen] at h1
 have := alike_rank hRx hc hAx rules (i : Int) (by omega) (by omega)
 unfold rd at this
 have e : id (i : Int) = (i : Int) := rfl
 rw [e, Int.toNat_natCast, List.getD_eq_getElem?_getD, List.getD_eq_getElem?_getD, List.getElem?_eq_getElem (by rw [hlen]; exact h1), List.getElem?_eq_getElem (by rw [hlen]; exact h1)] at this
 exact this
end Go.Proofs.Ytmnamkcjldaoeaa.PAll
namespace Go.Proofs.Ytmnamkcjldaoeaa.PAll
open Go.RowKit Go.Proofs.YtmnamkcjldaoeaaW.PrintWords Go.Proofs.YtmnamkcjldaoeaaW.PrintLast Go.Proofs.YtmnamkcjldaoeaaW.PrintMore
set_option linter.unusedVariables false
set_option linter.unusedSimpArgs false
def fieldV (x : S70) : Nat → Value
 | 0 => .int .i64 x.f0
 | 1 => .int .i64 x.f1
 | 2 => .int .i64 x.f2
 | 3 => .int .i64 x.f3
 | _ => .bool x.f4
def GamesAt (w : World) (g : Nat) (xs : List S70) : Prop := ∃ cur, w.heap[g]? = some (.cells cur 70 (0, 0)) ∧ ∀ i j, i < xs.length → j < 5 → cur[i * 5 + j]? = some (fieldV (rd_T70 xs i) j)
section
variable {w w1 : World} {g : Nat} {xs : List S70}
theorem GamesAt.cell (h : GamesAt w g xs) (i j : Nat) (hi : i < xs.length) (hj : j < 5) : w.cell? ⟨g, i * 5 + j, none⟩ = some (fieldV (rd_T70 xs i) j) := by
 obtain ⟨cur, h1, h2⟩ := h
 exact (blk_cell h1 _).trans (h2 i j hi hj)
theorem GamesAt.frozen (h : GamesAt w g xs) (i : Nat) : w.frozen? ⟨g, i, none⟩ = false := by
 obtain ⟨cur, h1, h2⟩ := h
 exact blk_frozen h1 i
theorem GamesAt.lt (h : GamesAt w g xs) : g < w.heap.size := by
 obtain ⟨cur, h1, h2⟩ := h
 exact blk_lt h1
theorem GamesAt.same (h : GamesAt w g xs) (hs : w1.heap[g]? = w.heap[g]?) : GamesAt w1 g xs := by
 obtain ⟨cur, h1, h2⟩ := h
 exact ⟨cur, hs.trans h1, h2⟩
theorem GamesAt.below (h : GamesAt w g xs) (hb : Below w.heap.size w w1) : GamesAt w1 g xs := h.same (hb.block _ h.lt)
theorem GamesAt.set (h : GamesAt w g xs) (i j : Nat) (hi : i < xs.length) (hj : j < 5) (y : S70) (v : Value) (hv : fieldV y j = v) (ho : ∀ k, k < 5 → k ≠ j → fieldV y k = fieldV (rd_T70 xs i) k) : GamesAt (w.setCell ⟨g, i * 5 + j, none⟩ v) g (xs.set i y) := by
 obtain ⟨cur, h1, h2⟩ := h
 refine ⟨_, blk_set h1 _ _, fun a b ha hb => ?_⟩
 rw [List.length_set] at ha
 have hc := h2 a b ha hb
 have hsz : a * 5 + b < cur.size := (Array.getElem?_eq_some_iff.1 hc).1
 have hrd : rd_T70 (xs.set i y) (a : Int) = if a = i then y else rd_T70 xs (a : Int) := by
  unfold rd_T70
  rw [Int.toNat_natCast]
  by_cases e : a = i
  ·
   subst e
   rw [if_pos rfl, List.getD_eq_getElem?_getD, List.getElem?_set_self ha, Option.getD_some]
  ·
   rw [if_neg e, List.getD_eq_getElem?_getD, List.getElem?_set_ne (by omega), ← List.getD_eq_getElem?_getD]
 rw [hrd]
 by_cases e : a * 5 + b = i * 5 + j
 ·
  have e1 : a = i := by omega
  have e2 : b = j := by omega
  subst e1 e2
  rw [if_pos rfl, Array.getElem?_setIfInBounds_self_of_lt hsz, hv]
 ·
  rw [Array.getElem?_setIfInBounds_ne (fun h => e h.symm), hc]
  by_cases e1 : a = i
  ·
   subst e1
   rw [if_pos rfl, ho b hb (by omega)]
  ·
   rw [if_neg e1]
theorem GamesAt.C (h : GamesAt w g xs) (hl : xs.length ≤ 1000) : Kd.C k70 w (some ⟨g, 0, none⟩) xs.length xs := by
 refine ⟨rfl, by omega, fun _ => ⟨⟨g, 0, none⟩, rfl, fun j p hj => ?_⟩⟩
 have hlt : j < xs.length := (List.getElem?_eq_some_iff.1 hj).1
 have hp : rd_T70 xs (j : Int) = p := by
  unfold rd_T70
  rw [Int.toNat_natCast, List.getD_eq_getElem?_getD, hj]
  rfl
 refine ⟨[.int .i64 p.f0, .int .i64 p.f1, .int .i64 p.f2, .int .i64 p.f3, .bool p.f4], rfl, k70_mk w p, fun i u hu => ?_⟩
 have e : ∀ k : Nat, (⟨g, 0, none⟩ : Addr).add k = ⟨g, k, none⟩ := fun k => by unfold Addr.add; split <;> simp_all
 rw [e]
 have hi : i < 5 := (List.getElem?_eq_some_iff.1 hu).1
 have := h.cell j i hlt hi
 rw [hp] at this
 rw [show k70.sz = 5 from rfl, this]
 match i, hi with
 | 0, _ | 1, _ | 2, _ | 3, _ | 4, _ => simpa [fieldV] using hu
theorem games_of {base : Nat} {ok : Nat → Prop} {v : Value} (h : Kd.R k70 70 w base ok v xs) (hp : 0 < xs.length) : ∃ g cap, v = .slice (some ⟨g, 0, none⟩) xs.length cap ∧ base ≤ g ∧ xs.length ≤ cap ∧ GamesAt w g xs := by
 obtain ⟨g, cap, rfl, hb, hlt, cells, hc⟩ := Kd.R_form h hp
 obtain ⟨_, hcap, hC⟩ := Kd.R_reads' h
 refine ⟨g, cap, rfl, hb, hcap, cells, hc, fun i j hi hj => ?_⟩
 obtain ⟨ad, ea, g0, g1, g2, g3, g4⟩ := at_T70 hC (i : Int) (by omega) (by omega)
 cases ea
 have e : ∀ k : Nat, (⟨g, 0, none⟩ : Addr).add k = ⟨g, k, none⟩ := fun k => by unfold Addr.add; split <;> simp_all
 simp only [Int.toNat_natCast, e] at g0 g1 g2 g3 g4
 match j, hj with
 | 0, _ => exact (blk_cell hc _).symm.trans g0
 | 1, _ => exact (blk_cell hc _).symm.trans g1
 | 2, _ => exact (blk_cell hc _).symm.trans g2
 | 3, _ => exact (blk_cell hc _).symm.trans g3
 | 4, _ => exact (blk_cell hc _).symm.trans g4
end
end Go.Proofs.Ytmnamkcjldaoeaa.PAll
namespace Go.Proofs.Ytmnamkcjldaoeaa.PAll
open Go.RowKit Go.Proofs.YtmnamkcjldaoeaaW.PrintWords Go.Proofs.YtmnamkcjldaoeaaW.PrintLast Go.Proofs.YtmnamkcjldaoeaaW.PrintMore
set_option linter.unusedVariables false
set_option linter.unusedSimpArgs false
theorem ready_calls' (a : Int) (A : Option Addr) (c : Nat) (l : List S70) (w : World) (hr : Kd.C k70 w A l.length l) (hc : l.length ≤ c) (b : Bool) (hb : readyB a l = b) :
  Calls Try.prog 34 #[.agg #[.int .i64 a, .slice A l.length c]] w fun e w' => e = .returned (.bool b) ∧ Below w.heap.size w w' := by
 obtain ⟨_, hk⟩ := (ready_ev a l).rounds
 rw [hb] at hk
 exact kingpinlaw08_ready.calls a A c l b w hr hc hk
theorem rd_set70 (xs : List S70) (i : Nat) (hi : i < xs.length) (y : S70) : rd_T70 (xs.set i y) (i : Int) = y := by
 unfold rd_T70
 rw [Int.toNat_natCast, List.getD_eq_getElem?_getD, List.getElem?_set_self hi, Option.getD_some]
theorem rankOf_len2 (n : Int) (l : List S85) (rules : List Int) : (rankOf n l rules).length = n.toNat := by
 unfold rankOf
 have : ∀ (gs : List (List Int)) (out : List Int) (r : Int), (outsOf gs out r).length = out.length := by
  intro gs
  induction gs with
  | nil => exact fun _ _ => rfl
  | cons g gs ih => exact fun out r => (ih _ _).trans (setAll_len g out r)
 rw [this, List.length_replicate]
theorem rank_calls' (a : Int) (A : Option Addr) (c : Nat) (L : List S85) (w : World) (hr : Kd.C k85 w A L.length L) (hc : L.length ≤ c) (hck : checkF a L = 0) (rules : List Int) (h6 : rules.length ≤ 6) (hrb : rules.all ruleB = true) (A1 : Option Addr) (c1 : Nat) (hr1 : Kd.C (Kd.int .u8) w A1 rules.length rules) (hc1 : rules.length ≤ c1) (rs : List Int) (hrs : rankOf a L rules = rs) :
  Calls Try.prog 19 #[.agg #[.int .i64 a, .slice A L.length c], .slice A1 rules.length c1] w fun e w' => ∃ A' c', e = .returned (.tuple #[.slice A' rs.length c', .int .i64 0]) ∧ Kd.C (Kd.int .i64) w' A' rs.length rs ∧ rs.length ≤ c' ∧ Below w.heap.size w w' := by
 obtain ⟨k, hk⟩ := (Rank_ev a L rules).rounds
 have e : rankF a L rules = (rs, 0) := by
  unfold rankF
  rw [hck, if_neg (by decide), if_neg (by omega), if_pos hrb, hrs]
 rw [e] at hk
 refine (league_Rank.calls k a A c L A1 c1 rules rs 0 w hr hc hr1 hc1 hk).mono ?_
 rintro e w' ⟨v, rfl, hR, hb⟩
 obtain ⟨A', c', rfl⟩ := Kd.R_slice hR
 exact ⟨A', c', rfl, (Kd.R_reads' hR).2.2, (Kd.R_reads' hR).2.1, hb⟩
end Go.Proofs.Ytmnamkcjldaoeaa.PAll
