/- Parts of the proof of leagueFirsts_holds, in order: HRuns, HAwake, HP1, HP4, HP12, HFirst0, HFirst, HP7, HFirst2, HCanFirst, HLaw, HShows, HP11, HFirstsF, HFirstsW -/
import Derived.Test.YtmnamkcjldaoeaaKFirsts3
import Derived.Test.YtmnamkcjldaoeaaKFirsts4
import Derived.Test.YtmnamkcjldaoeaaKFirsts6
import Derived.Test.YtmnamkcjldaoeaaKFirsts7
import Derived.Test.YtmnamkcjldaoeaaKFirsts12
import Derived.Test.YtmnamkcjldaoeaaKFirsts14
import Derived.Test.YtmnamkcjldaoeaaKFirsts15
import Derived.Test.YtmnamkcjldaoeaaKFirsts17
import Derived.Test.YtmnamkcjldaoeaaKFirsts18
import Derived.Deep.DeepCutAuto
import Derived.Deep.RegionWith
namespace Go.Proofs.Ytmnamkcjldaoeaa.PAll
open Go.RowKit Go.Proofs.YtmnamkcjldaoeaaW.PrintWords Go.Proofs.YtmnamkcjldaoeaaW.PrintLast Go.Proofs.YtmnamkcjldaoeaaW.PrintMore
set_option linter.unusedVariables false
set_option linter.unusedSimpArgs false
def upTo (ys : List Int) (k : Nat) : List Int := ys.take k ++ [0, 0, 0, 0, 0, 0].drop k
theorem upTo_length (ys : List Int) (hl : ys.length = 6) (k : Nat) (hk : k ≤ 6) : (upTo ys k).length = 6 := by
 simp [upTo, hl]
 omega
theorem upTo_succ (ys : List Int) (hl : ys.length = 6) (k : Nat) (hk : k < 6) : (upTo ys k).set k (ys.getD k 0) = upTo ys (k + 1) := by
 obtain ⟨y0, y1, y2, y3, y4, y5, rfl⟩ := six_of hl
 match k, hk with
 | 0, _ | 1, _ | 2, _ | 3, _ | 4, _ | 5, _ => rfl
theorem upTo_all (ys : List Int) (hl : ys.length = 6) : upTo ys 6 = ys := by
 obtain ⟨y0, y1, y2, y3, y4, y5, rfl⟩ := six_of hl
 rfl
abbrev runsRB (p : FB) (bg bh b : Nat) (Ao : Option Addr) (co : Nat) : RB := ⟨bg, bh, b, p.team, p.reach, p.base, p.op, p.op.length, .slice (some ⟨bg, 0, none⟩) p.op.length p.op.length, Ao, co⟩
def runsPost (p : FB) (B b : Nat) (Ao : Option Addr) (co : Nat) (w : World) (r : Bool) (gv : List Int) (e : Ending) (w' : World) : Prop :=
 e = .returned (.bool r) ∧ (r = true → ∃ Ag cg, RaceAt w' b p.team p.reach p.base (.slice Ao p.op.length co) (.slice Ag gv.length cg) ∧ Kd.C (Kd.int .i64) w' Ag gv.length gv) ∧ Below B w w'
def givTo (team : Int) (op : List S85) (k : Nat) : List Int := (op.take k).map (give0 team) ++ List.replicate (op.length - k) 0
theorem givTo_length (team : Int) (op : List S85) (k : Nat) (hk : k ≤ op.length) : (givTo team op k).length = op.length := by
 simp [givTo]
 omega
theorem givTo_succ (team : Int) (op : List S85) (k : Nat) (hk : k < op.length) : (givTo team op k).set k (give0 team (op.getD k z85)) = givTo team op (k + 1) := by
 unfold givTo
 rw [List.set_append_right _ _ (by simp; omega), List.take_succ_eq_append_getElem hk, List.map_append, List.append_assoc, List.length_map, List.length_take, Nat.min_eq_left (by omega), Nat.sub_self, show op.length - k = (op.length - (k + 1)) + 1 from by omega, List.replicate_succ, List.set_cons_zero]
 rw [List.getD_eq_getElem?_getD, List.getElem?_eq_getElem hk]
 rfl
theorem givTo_zero (team : Int) (op : List S85) (k : Nat) (hk : k < op.length) (h : give0 team (op.getD k z85) = 0) : givTo team op (k + 1) = givTo team op k := by
 rw [← givTo_succ team op k hk, h]
 refine List.ext_getElem? fun i => ?_
 by_cases e : i = k
 ·
  subst e
  rw [List.getElem?_set_self (by rw [givTo_length _ _ _ (by omega)]; exact hk)]
  unfold givTo
  rw [List.getElem?_append_right (by simp; omega), List.getElem?_replicate, if_pos (by simp; omega)]
 ·
  rw [List.getElem?_set_ne (fun h => e h.symm)]
theorem givTo_all (team : Int) (op : List S85) : givTo team op op.length = op.map (give0 team) := by simp [givTo]
theorem have0_succ (team : Int) (op : List S85) (h : List Int) (k : Nat) (hk : k < op.length) : (op.take (k + 1)).foldl (have0 team) h = have0 team ((op.take k).foldl (have0 team) h) (op.getD k z85) := by
 rw [List.take_succ_eq_append_getElem hk, List.foldl_append, List.getD_eq_getElem?_getD, List.getElem?_eq_getElem hk]
 rfl
theorem have0_skip {team : Int} {h : List Int} {g : S85} (hg : g.f0 = team ∨ g.f1 = team) : have0 team h g = h := if_pos hg
theorem have0_add {team : Int} {h : List Int} {g : S85} (h0 : ¬ g.f0 = team) (h1 : ¬ g.f1 = team) : have0 team h g = h.set g.f1.toNat (wrap64 (h.getD g.f1.toNat 0 + 2)) := if_neg (fun hg => hg.elim h0 h1)
section
variable {q : RB} {w w1 : World} {gv hv : List Int} {n : Nat}
theorem RunW.setG (N : q.N n) (h : RunW q w gv hv) (i : Nat) (v : Int) : RunW q (w.setCell ⟨q.bg, i, none⟩ (.int .i64 v)) (gv.set i v) hv :=
 have z : ∀ k, k ≠ q.bg → (w.setCell ⟨q.bg, i, none⟩ (.int .i64 v)).heap[k]? = w.heap[k]? := fun k hk => Below.heap_setCell w ⟨q.bg, i, none⟩ _ k hk
 ⟨fun e => (h.hg e).set i v, by rw [List.length_set]; exact h.gl, (z _ N.e.1.symm).trans h.hh, h.hl, h.hr.same (z _ N.e.2.1), C85_set h.ho _ _ _ (fun ad e => (N.ea ad e).2.1), h.hgv⟩
theorem RunW.setH (N : q.N n) (h : RunW q w gv hv) (i : Nat) (v : Int) : RunW q (w.setCell ⟨q.bh, i, none⟩ (.int .i64 v)) gv (hv.set i v) :=
 have z : ∀ k, k ≠ q.bh → (w.setCell ⟨q.bh, i, none⟩ (.int .i64 v)).heap[k]? = w.heap[k]? := fun k hk => Below.heap_setCell w ⟨q.bh, i, none⟩ _ k hk
 ⟨fun e => (h.hg e).same (z _ N.e.1), h.gl, h.hh.set i v, by rw [List.length_set]; exact h.hl, h.hr.same (z _ N.e.2.2), C85_set h.ho _ _ _ (fun ad e => (N.ea ad e).2.2), h.hgv⟩
theorem RunW.below (h : RunW q w gv hv) (hb : Below w.heap.size w w1) : RunW q w1 gv hv :=
 ⟨fun e => (h.hg e).same (hb.block _ (h.hg e).lt), h.gl, h.hh.below hb, h.hl, h.hr.below hb, Kd.C_below h.ho hb, h.hgv⟩
theorem RB.Far.toBelow {B : Nat} (h : q.Far w w1) (h1 : B ≤ q.bg) (h2 : B ≤ q.bh) (h3 : B ≤ w.heap.size) : Below B w w1 :=
 ⟨h.os, h.tape, h.output, h.size, fun k hk => h.block k (by omega) (by omega) (by omega)⟩
end
theorem GivAt.made (w : World) (m : Nat) : GivAt (w.alloc (.cells (madeCells #[.int .i64 0] m) 3)) w.heap.size (List.replicate m 0) := by
 refine ⟨_, blk_new _ _, fun i hi => ?_⟩
 rw [List.length_replicate] at hi
 rw [← Array.getElem?_toList, toList_madeCells_one, List.getElem?_replicate, if_pos hi, List.getD_eq_getElem?_getD, List.getElem?_replicate, if_pos hi]
 rfl
def contT (op : List S85) (team reach : Int) (d t : Nat) (x : Bool × List Int × List Int) : Option (Bool × List Int × List Int) := if x.1 = true then settleA op team reach d (t + 1) x.2.1 x.2.2 else some x
def moreW (bh t : Nat) (reach : Int) (w : World) : Nat := (intOf ((w.cell? ⟨bh, t, none⟩).getD (.int .i64 0)) - reach).toNat
theorem moreW_eq {q : RB} {w : World} {gv hv : List Int} (h : RunW q w gv hv) (t : Nat) (ht : t < 6) (reach : Int) : moreW q.bh t reach w = (hv.getD t 0 - reach).toNat := by
 unfold moreW
 rw [h.hh.cell t (by rw [h.hl]; exact ht)]
 rfl
set_option maxRecDepth 100000 in
set_option maxHeartbeats 4000000 in
theorem runs_calls (p : FB) (P : p.ok) (hr0 : 0 ≤ p.reach) (hz : ∀ t : Int, p.n ≤ t → t < 6 → p.base.getD t.toNat 0 = 0) (B b : Nat) (Ao : Option Addr) (co : Nat) (g : Value) (w : World)
  (ha : RaceAt w b p.team p.reach p.base (.slice Ao p.op.length co) g) (ho : Kd.C k85 w Ao p.op.length p.op) (hA : ∀ ad, Ao = some ad → ad.block ≠ b ∧ ad.block < w.heap.size) (hB : B ≤ b)
  (r : Bool) (gv hv : List Int) (h : runsF p.op p.team p.reach p.base = some (r, gv, hv)) :
  Calls Try.prog 80 #[.pointer (some ⟨b, 0, none⟩)] w (runsPost p B b Ao co w r gv) := by
 have HPP := Lib.hid P
 have HL := Lib.hid ha.1
 have HR := Aside0.mk ha
 have HO := Aside0.mk ho
 have HAO := Lib.hid hA
 have HZ := Lib.hid hz
 have hbl := ha.lt
 unfold runsF at h
 have HH := Lib.hid h
 clear ha ho hA hz P h
 have q0 := HR.out.cs 0 (by omega)
 have q1 := HR.out.cs 1 (by omega)
 have q2 := HR.out.cs 2 (by omega)
 have q3 := HR.out.cs 3 (by omega)
 have q4 := HR.out.cs 4 (by omega)
 have q5 := HR.out.cs 5 (by omega)
 obtain ⟨y0, y1, y2, y3, y4, y5, hy⟩ := six_of HL.out
 rw [hy] at q0 q1 q2 q3 q4 q5
 simp only [Nat.add_zero, Nat.reduceAdd, List.getD_cons_zero, List.getD_cons_succ] at q0 q1 q2 q3 q4 q5
 have hix : ∀ (i : Int), 0 ≤ i → i < 6 → ∀ W : World, (Instr.index 102 (.agg #[.int .i64 y0, .int .i64 y1, .int .i64 y2, .int .i64 y3, .int .i64 y4, .int .i64 y5]) (.int .i64 i)).run Try.prog W = .ok (.int .i64 (p.base.getD i.toNat 0)) W := by
  intro i i0 i6 W
  have := index_arr p.base HL.out i i0 i6 W
  rw [hy] at this ⊢
  exact this
 have HIX := Lib.hid hix
 have HY := Lib.hid hy
 clear hy hix
 have e1 := HR.out.c1
 have e0 := HR.out.c0
 have e8 := HR.out.c8
 go_enter Try.func80, Try.ntmps80
 have HW0 : Aside0 (Below w.heap.size w (w.alloc (.cells #[.int .i64 0, .int .i64 0, .int .i64 0, .int .i64 0, .int .i64 0, .int .i64 0] 102))) := ⟨below_alloc (Below.refl _ _) _⟩
 have HA0 : Aside0 (ArrAt (w.alloc (.cells #[.int .i64 0, .int .i64 0, .int .i64 0, .int .i64 0, .int .i64 0, .int .i64 0] 102)) w.heap.size 102 (upTo p.base 0)) := ⟨ArrAt.new w [0, 0, 0, 0, 0, 0] 102⟩
 have ne : b ≠ w.heap.size := by omega
 go_wp2
 go_loopw [13] (fun v wr => ∃ k : Nat, k ≤ 6 ∧ v = .int .i64 k ∧ Aside0 (ArrAt wr w.heap.size 102 (upTo p.base k)) ∧ Aside0 (∀ j, j < k → ¬ p.reach < p.base.getD j 0) ∧ Aside0 (Below w.heap.size w wr)) (fun v _ => 6 - (intOf v).toNat)
 case atStart => exact ⟨0, by omega, rfl, HA0, ⟨fun j hj => by omega⟩, HW0⟩
 case round =>
  obtain ⟨k, hk, rfl, hA, hN, hBW⟩ := hrel
  by_cases hlt : k < 6
  ·
   have hi := HIX.out (k : Int) (by omega) (by omega)
   rw [Int.toNat_natCast] at hi
   have HU := Lib.hid (upTo_succ p.base HL.out k hlt)
   have hlen := upTo_length p.base HL.out k (by omega)
   obtain ⟨y, hyy⟩ : ∃ y, p.base.getD k 0 = y := ⟨_, rfl⟩
   have HYY := Lib.hid hyy
   rw [hyy] at hi
   have h1 := (HR.out.below hBW.out).c1
   have hf := hA.out.frozen k
   have hcl := hA.out.cell k (by rw [hlen]; omega)
   obtain ⟨z, hzz⟩ : ∃ z, (upTo p.base k).getD k 0 = z := ⟨_, rfl⟩
   rw [hzz] at hcl
   clear hzz
   have hsz := below_size hBW.out
   have ne2 : b ≠ w.heap.size := by omega
   clear hyy
   by_cases c : p.reach < y
   ·
    have cb : decide (y > p.reach) = true := decide_eq_true c
    have HE : Hid (r = false) := by
     have := HH.out
     rw [if_pos ⟨y, by rw [← HYY.out, List.getD_eq_getElem?_getD, List.getElem?_eq_getElem (by rw [HL.out]; exact hlt)]; exact List.getElem_mem _, c⟩] at this
     injection this with this
     injection this with this
     exact this.symm
    clear c
    go_wp2
    refine bodyPost_ret (v := .bool false) (by simp [results, Try.results80, go_sem]) rfl ⟨by rw [HE.out], fun e => (by rw [HE.out] at e; cases e), ?_⟩
    exact (hBW.out.setCell (by simp) _).mono (by omega)
   ·
    have cb : decide (y > p.reach) = false := decide_eq_false c
    have HCC := Lib.hid c
    clear c
    go_wp2
    go_roundw
    case rel =>
     refine ⟨k + 1, by omega, by simp, ⟨?_⟩, ⟨fun j hj => ?_⟩, ⟨hBW.out.setCell (by simp) _⟩⟩
     ·
      rw [← HU.out, HYY.out]
      exact hA.out.set k y
     ·
      rcases Nat.lt_or_ge j k with h | h
      ·
       exact hN.out j h
      ·
       rw [show j = k by omega, HYY.out]
       exact HCC.out
    case measure => simp [intOf]; omega
  ·
   obtain rfl : k = 6 := by omega
   rw [show ((6 : Nat) : Int) = 6 from rfl]
   have HH2 : Hid (settleA p.op p.team p.reach 6 0 (p.op.map (give0 p.team)) (p.op.foldl (have0 p.team) p.base) = some (r, gv, hv)) := by
    have := HH.out
    rw [if_neg (by
     rintro ⟨y, hy, hlt⟩
     obtain ⟨i, hi, rfl⟩ := List.getElem_of_mem hy
     have h2 := hN.out i (by rw [HL.out] at hi; exact hi)
     rw [List.getD_eq_getElem?_getD, List.getElem?_eq_getElem hi, Option.getD_some] at h2
     exact h2 hlt)] at this
    exact this
   have HA : Aside0 (ArrAt wr w.heap.size 102 p.base) := ⟨by have := hA.out; rw [upTo_all p.base HL.out] at this; exact this⟩
   clear hA hN q0 q1 q2 q3 q4 q5
   have hol := HPP.out.ol
   have hmk := print_make (P := Try.prog) 34 3 .i64 8 Try.underlying34 info3 (by decide) p.op.length (by omega)
   have HRR := Aside0.mk (HR.out.below hBW.out)
   have d8 := HRR.out.c8
   have HRA := Aside0.mk (HRR.out.below (below_alloc (Below.refl _ _) (.cells (madeCells #[.int .i64 0] p.op.length) 3)))
   have d9 := HRA.out.c9
   have d9f := HRA.out.frozen 9
   have hsz := below_size hBW.out
   have hwr : w.heap.size < wr.heap.size := blk_lt HA.out
   have ne2 : b ≠ wr.heap.size := by omega
   clear e0 e1 e8
   go_upto_region 10 with fail
   obtain ⟨W1, hW1⟩ : ∃ W, W = ((wr.alloc (.cells (madeCells #[.int .i64 0] p.op.length) 3)).setCell ⟨b, 9, none⟩ (.slice (some ⟨wr.heap.size, 0, none⟩) p.op.length p.op.length)) := ⟨_, rfl⟩
   rw [← hW1]
   obtain ⟨bg, hbg⟩ : ∃ k, k = wr.heap.size := ⟨_, rfl⟩
   obtain ⟨bh, hbh⟩ : ∃ k, k = w.heap.size := ⟨_, rfl⟩
   have HN1 : Aside0 ((runsRB p bg bh b Ao co).N W1.heap.size) := ⟨by
    rw [hbg, hbh, hW1]
    refine ⟨⟨by show wr.heap.size ≠ w.heap.size; omega, by show b ≠ wr.heap.size; omega, by show b ≠ w.heap.size; omega⟩, ⟨?_, ?_, ?_⟩, fun ad e => ?_⟩
    ·
     show wr.heap.size < _; simp
    ·
     show w.heap.size < _; simp; omega
    ·
     show b < _; simp; omega
    ·
     have := HAO.out ad e
     refine ⟨by simp; omega, by show ad.block ≠ wr.heap.size; omega, by show ad.block ≠ w.heap.size; omega⟩⟩
   have HR1 : Aside0 (RunW (runsRB p bg bh b Ao co) W1 (givTo p.team p.op 0) p.base) := ⟨by
    have hb1 := below_alloc (Below.refl wr.heap.size wr) (.cells (madeCells #[.int .i64 0] p.op.length) 3)
    have z : ∀ k, k ≠ b → W1.heap[k]? = (wr.alloc (.cells (madeCells #[.int .i64 0] p.op.length) 3)).heap[k]? := fun k hk => by rw [hW1]; exact Below.heap_setCell _ ⟨b, 9, none⟩ _ k hk
    rw [hbg, hbh]
    refine ⟨fun _ => ?_, givTo_length _ _ _ (Nat.zero_le _), (z _ (fun h => ne h.symm)).trans (HA.out.below hb1), HL.out, ?_, ?_, fun _ => rfl⟩
    ·
     exact (GivAt.made wr p.op.length).same (z _ (fun h => ne2 h.symm))
    ·
     rw [hW1]; exact HRA.out.set9 _
    ·
     exact C85_same (Kd.C_below (Kd.C_below HO.out (hBW.out)) hb1) (fun ad e => z _ (HAO.out ad e).1)⟩
   have HB1 : Aside0 (Below B w W1) := ⟨by
    rw [hW1]
    exact ((hBW.out.mono (by omega)).trans ((below_alloc (Below.refl _ wr) _).mono (by omega))).setCell (by simpa using hB) _⟩
   have hBg : B ≤ bg := by omega
   have hBh : B ≤ bh := by omega
   have f0 : W1.cell? ⟨b, 0, none⟩ = some (.int .i64 p.team) := HR1.out.hr.c0
   have f8 : W1.cell? ⟨b, 8, none⟩ = some (.slice Ao p.op.length co) := HR1.out.hr.c8
   rw [← hbg, ← hbh]
   clear hmk d8 d9 d9f hW1 HRA HRR HA hbg hbh ne ne2 hwr hsz
   go_wp2
   go_loopw [41] (fun v wr => ∃ k : Nat, k ≤ p.op.length ∧ v = .int .i64 k ∧ Aside0 (RunW (runsRB p bg bh b Ao co) wr (givTo p.team p.op k) ((p.op.take k).foldl (have0 p.team) p.base)) ∧ Aside0 (W1.heap.size ≤ wr.heap.size) ∧ Aside0 (Below B w wr)) (fun v _ => p.op.length - (intOf v).toNat)
   case atStart => exact ⟨0, Nat.zero_le _, rfl, HR1, ⟨Nat.le_refl _⟩, HB1⟩
   case round =>
    obtain ⟨k, hk2, rfl, hS, hZ, hB2⟩ := hrel
    have r0 : wr.cell? ⟨b, 0, none⟩ = some (.int .i64 p.team) := hS.out.hr.c0
    have hN2 := HN1.out.lt
    have lb : b < wr.heap.size := Nat.lt_of_lt_of_le hN2.2.2 hZ.out
    have lbg : bg < wr.heap.size := Nat.lt_of_lt_of_le hN2.1 hZ.out
    have lbh : bh < wr.heap.size := Nat.lt_of_lt_of_le hN2.2.1 hZ.out
    clear hN2
    by_cases hlt2 : k < p.op.length
    ·
     have hC : Kd.C k85 wr Ao p.op.length p.op := hS.out.ho
     obtain ⟨ag, ea, g0, g1, g2, g3, g4⟩ := at_T85 hC (k : Int) (by omega) (by omega)
     cases ea
     simp only [Int.toNat_natCast] at g0 g1 g2 g3 g4
     have hx : rd_T85 p.op ↑k = p.op.getD k z85 := rfl
     obtain ⟨x, hxx⟩ : ∃ x, rd_T85 p.op ↑k = x := ⟨_, rfl⟩
     have HX2 : Hid (p.op.getD k z85 = x) := hxx
     rw [hxx] at g0 g1 g2 g3 g4
     have hso : sound x := by rw [← hxx, hx]; exact ok_sound HPP.out _ (by rw [List.getD_eq_getElem?_getD, List.getElem?_eq_getElem hlt2]; exact List.getElem_mem hlt2)
     clear hx hxx hC
     obtain ⟨a1, a2, a3, a4, a5⟩ := hso
     have HNE := Lib.hid a5
     clear a5
     have hne : p.op ≠ [] := by intro e; rw [e] at hlt2; cases hlt2
     have r9 : wr.cell? ⟨b, 9, none⟩ = some (.slice (some ⟨bg, 0, none⟩) p.op.length p.op.length) := hS.out.hr.c9
     have eg : wr.cell? ⟨bg, k, none⟩ = some (.int .i64 ((givTo p.team p.op k).getD k 0)) := (hS.out.hg hne).cell k (by rw [hS.out.gl]; exact hlt2)
     have fg : wr.frozen? ⟨bg, k, none⟩ = false := (hS.out.hg hne).frozen k
     have eh : wr.cell? ⟨bh, x.f1.toNat, none⟩ = some (.int .i64 (((p.op.take k).foldl (have0 p.team) p.base).getD x.f1.toNat 0)) := hS.out.hh.cell x.f1.toNat (by rw [hS.out.hl]; omega)
     have fh : wr.frozen? ⟨bh, x.f1.toNat, none⟩ = false := hS.out.hh.frozen x.f1.toNat
     obtain ⟨gk, hgk⟩ : ∃ v, (givTo p.team p.op k).getD k 0 = v := ⟨_, rfl⟩
     obtain ⟨hk1, hhk⟩ : ∃ v, ((p.op.take k).foldl (have0 p.team) p.base).getD x.f1.toNat 0 = v := ⟨_, rfl⟩
     rw [hgk] at eg
     rw [hhk] at eh
     have HHK := Lib.hid hhk
     clear hgk hhk hne
     have HH1 := Lib.hid (have0_succ p.team p.op p.base k hlt2)
     have HS1 := Lib.hid (givTo_succ p.team p.op k hlt2)
     have HS0 := Lib.hid (givTo_zero p.team p.op k hlt2)
     have n1 : b ≠ wr.heap.size := by omega
     have n2 : bg ≠ wr.heap.size := by omega
     have n3 : bh ≠ wr.heap.size := by omega
     by_cases c1 : x.f0 = p.team
     ·
      have b1 : (p.team == x.f0) = true := beq_iff_eq.2 c1.symm
      have HC1 := Lib.hid c1
      clear c1
      go_wp2
      go_roundw
      case rel =>
       refine ⟨k + 1, by omega, by simp, ⟨?_⟩, ⟨by simp; have := hZ.out; omega⟩, ⟨(hB2.out.setCell (by simpa using hBg) _).alloc (by simp; omega) _⟩⟩
       rw [HH1.out, ← HS1.out, HX2.out, have0_skip (Or.inl HC1.out), show give0 p.team x = 2 from if_pos HC1.out]
       exact (hS.out.setG HN1.out k 2).below (below_alloc (Below.refl _ _) _)
      case measure => simp [intOf]; omega
     ·
      have b1 : (p.team == x.f0) = false := beq_eq_false_iff_ne.2 (fun h => c1 h.symm)
      have HC1 := Lib.hid c1
      clear c1
      by_cases c2 : x.f1 = p.team
      ·
       have b2 : (p.team == x.f1) = true := beq_iff_eq.2 c2.symm
       have HC2 := Lib.hid c2
       clear c2
       go_wp2
       go_roundw
       case rel =>
        refine ⟨k + 1, by omega, by simp, ⟨?_⟩, ⟨by simp; have := hZ.out; omega⟩, ⟨(hB2.out.alloc (by omega) _)⟩⟩
        rw [HH1.out, HS0.out (by rw [HX2.out]; exact if_neg HC1.out), HX2.out, have0_skip (Or.inr HC2.out)]
        exact (hS.out.below (below_alloc (Below.refl _ _) _))
       case measure => simp [intOf]; omega
      ·
       have b2 : (p.team == x.f1) = false := beq_eq_false_iff_ne.2 (fun h => c2 h.symm)
       have HC2 := Lib.hid c2
       clear c2
       go_wp2
       go_roundw
       case rel =>
        refine ⟨k + 1, by omega, by simp, ⟨?_⟩, ⟨by simp; have := hZ.out; omega⟩, ⟨(hB2.out.setCell (by simpa using hBh) _).alloc (by simp; omega) _⟩⟩
        rw [HH1.out, HS0.out (by rw [HX2.out]; exact if_neg HC1.out), HX2.out, have0_add HC1.out HC2.out, HHK.out]
        exact (hS.out.setH HN1.out x.f1.toNat _).below (below_alloc (Below.refl _ _) _)
       case measure => simp [intOf]; omega
    ·
     obtain rfl : k = p.op.length := by omega
     have HS2 : Aside0 (RunW (runsRB p bg bh b Ao co) wr (p.op.map (give0 p.team)) (p.op.foldl (have0 p.team) p.base)) := ⟨by
      have := hS.out
      rw [givTo_all, List.take_length] at this
      exact this⟩
     have HI2 := Aside0.mk (start_ok HPP.out HL.out)
     have HBG := Lib.hid (big_ok HPP.out hr0 HZ.out)
     obtain ⟨gv0, hgv0⟩ : ∃ l, p.op.map (give0 p.team) = l := ⟨_, rfl⟩
     obtain ⟨hv0, hhv0⟩ : ∃ l, p.op.foldl (have0 p.team) p.base = l := ⟨_, rfl⟩
     rw [hgv0, hhv0] at HH2 HS2 HI2
     have HNN : Aside0 ((runsRB p bg bh b Ao co).N wr.heap.size) := ⟨⟨HN1.out.e, ⟨lbg, lbh, lb⟩, fun ad e => ⟨by have := (HN1.out.ea ad e).1; have := hZ.out; omega, (HN1.out.ea ad e).2⟩⟩⟩
     obtain ⟨N0, hN0⟩ : ∃ N0, N0 = wr.heap.size := ⟨_, rfl⟩
     have HZ0 : Hid (N0 ≤ wr.heap.size) := (by show N0 ≤ wr.heap.size; omega)
     have HSB := Lib.hid (show B ≤ N0 by omega)
     rw [← hN0] at HNN
     clear hgv0 hhv0 f0 f8 hS r0 hN0 hZ lb lbg lbh
     go_wp2
     go_loopw [71] (fun v wr => ∃ (t : Nat) (gv1 hv1 : List Int), t ≤ 6 ∧ v = .int .i64 t ∧ Aside0 (settleA p.op p.team p.reach (6 - t) t gv1 hv1 = some (r, gv, hv)) ∧ Aside0 (RunW (runsRB p bg bh b Ao co) wr gv1 hv1) ∧ Aside0 (p.I gv1 hv1) ∧ Aside0 (N0 ≤ wr.heap.size) ∧ Aside0 (Below B w wr)) (fun v _ => 6 - (intOf v).toNat)
     case atStart => exact ⟨0, gv0, hv0, by omega, rfl, ⟨HH2.out⟩, HS2, HI2, ⟨HZ0.out⟩, hB2⟩
     case round =>
      obtain ⟨t, gv1, hv1, ht6, rfl, hX, hR, hI, hZ, hB3⟩ := hrel
      by_cases hlt3 : t < 6
      ·
       have HX1 : Hid ((settleT p.op p.team p.reach t 2000 gv1 hv1).bind (contT p.op p.team p.reach (6 - (t + 1)) t) = some (r, gv, hv)) := by
        have := hX.out
        rw [show 6 - t = (6 - (t + 1)) + 1 from by omega] at this
        exact this
       clear hX
       have bt : decide ((t : Int) < 6) = true := decide_eq_true (by omega)
       go_wp2
       go_loopw [74] (fun _ wr => ∃ (k : Nat) (gv2 hv2 : List Int), Aside0 ((settleT p.op p.team p.reach t k gv2 hv2).bind (contT p.op p.team p.reach (6 - (t + 1)) t) = some (r, gv, hv)) ∧ Aside0 (RunW (runsRB p bg bh b Ao co) wr gv2 hv2) ∧ Aside0 (p.I gv2 hv2) ∧ Aside0 (N0 ≤ wr.heap.size) ∧ Aside0 (Below B w wr)) (fun _ wr => moreW bh t p.reach wr)
       case atStart => exact ⟨2000, gv1, hv1, ⟨HX1.out⟩, hR, hI, hZ, hB3⟩
       case round =>
        obtain ⟨k, gv2, hv2, hX2, hR2, hI2, hZ2, hB4⟩ := hrel
        cases k with
        | zero =>
         have := hX2.out
         cases this
        | succ k =>
         have HX3 : Hid ((if (t : Int) ≠ p.team ∧ p.reach < hv2.getD (t : Int).toNat 0 then (passF p.op p.team p.reach 6 (seen0, gv2, hv2) t).bind fun x => if x.1 = true then settleT p.op p.team p.reach t k x.2.2.1 x.2.2.2 else some (false, x.2.2) else some (true, gv2, hv2)).bind (contT p.op p.team p.reach (6 - (t + 1)) t) = some (r, gv, hv)) := hX2.out
         clear hX2
         have d0 : wr.cell? ⟨b, 0, none⟩ = some (.int .i64 p.team) := hR2.out.hr.c0
         have d1 : wr.cell? ⟨b, 1, none⟩ = some (.int .i64 p.reach) := hR2.out.hr.c1
         have dh : wr.cell? ⟨bh, t, none⟩ = some (.int .i64 (hv2.getD t 0)) := hR2.out.hh.cell t (by rw [hR2.out.hl]; exact hlt3)
         have HMW := Lib.hid (moreW_eq hR2.out t hlt3 p.reach)
         obtain ⟨ht, hht⟩ : ∃ v, hv2.getD t 0 = v := ⟨_, rfl⟩
         have HHT := Lib.hid hht
         rw [hht] at dh
         clear hht
         by_cases c1 : (t : Int) = p.team
         ·
          have b1 : ((t : Int) != p.team) = false := bne_eq_false_iff_eq.2 c1
          have HX4 : Hid (settleA p.op p.team p.reach (6 - (t + 1)) (t + 1) gv2 hv2 = some (r, gv, hv)) := by
           have := HX3.out
           rw [if_neg (fun h => h.1 c1)] at this
           exact this
          clear c1
          go_upto_region 22 with fail
          go_quiet (fail)
          go_wp2
          go_roundw
          case rel => exact ⟨t + 1, gv2, hv2, by omega, by simp, ⟨HX4.out⟩, ⟨hR2.out.below (pw_below_drewN (Below.refl _ _) _)⟩, hI2, ⟨Nat.le_trans hZ2.out (pw_below_drewN (Below.refl wr.heap.size wr) _).size⟩, ⟨pw_below_drewN hB4.out _⟩⟩
          case measure => simp [intOf]; omega
         ·
          have b1 : ((t : Int) != p.team) = true := bne_iff_ne.2 c1
          have HC1 := Lib.hid c1
          clear c1
          by_cases c2 : p.reach < ht
          ·
           have b2 : decide (ht > p.reach) = true := decide_eq_true c2
           have HC2 := Lib.hid c2
           clear c2
           go_upto_region 22 with fail
           have HTN : Hid ((t : Int) < p.n) := HBG.out (t : Int) (by omega) (by omega) hv2 gv2 hI2.out (by rw [Int.toNat_natCast, HHT.out]; exact HC2.out)
           obtain ⟨r1, s', hpass, hpost, _⟩ := pass_ok HPP.out 6 (seen0, gv2, hv2) (t : Int) rfl (by show seen0.count false ≤ 6; decide) (by omega) HTN.out HC1.out (not_seen0 _) hI2.out
           have HPASS := Lib.hid hpass
           have HPOST := Lib.hid hpost
           have HX5 : Hid ((if r1 = true then settleT p.op p.team p.reach t k s'.2.1 s'.2.2 else some (false, s'.2)).bind (contT p.op p.team p.reach (6 - (t + 1)) t) = some (r, gv, hv)) := by
            have := HX3.out
            rw [if_pos ⟨HC1.out, by rw [Int.toNat_natCast, HHT.out]; exact HC2.out⟩, hpass, Option.bind_some] at this
            exact this
           clear hpass hpost HX3
           go_quiet (fail)
           go_upto_region 23 with fail
           have HD : Aside0 (Below wr.heap.size wr (wr.drewN nq)) := ⟨pw_below_drewN (Below.refl _ _) _⟩
           obtain ⟨W5, hW5⟩ : ∃ W, W = wr.drewN nq := ⟨_, rfl⟩
           rw [← hW5] at HD ⊢
           have HRD : Aside0 (RunW (runsRB p bg bh b Ao co) W5 gv2 hv2) := ⟨hR2.out.below HD.out⟩
           have HND : Aside0 ((runsRB p bg bh b Ao co).N W5.heap.size) := ⟨⟨HNN.out.e, ⟨Nat.lt_of_lt_of_le HNN.out.lt.1 (Nat.le_trans hZ2.out HD.out.size), Nat.lt_of_lt_of_le HNN.out.lt.2.1 (Nat.le_trans hZ2.out HD.out.size), Nat.lt_of_lt_of_le HNN.out.lt.2.2 (Nat.le_trans hZ2.out HD.out.size)⟩, fun ad e => ⟨Nat.lt_of_lt_of_le (HNN.out.ea ad e).1 (Nat.le_trans hZ2.out HD.out.size), (HNN.out.ea ad e).2⟩⟩⟩
           have HC := Lib.hid (shift_calls (runsRB p bg bh b Ao co) W5 HND.out (ok_sound HPP.out) hol 6 gv2 hv2 (t : Int) (by omega) (by omega) r1 s' HPASS.out HRD.out)
           clear hW5 d0 d1 dh b1 b2
           cases r1 with
           | true =>
            go_wp2_with (go_at_call 106; (with_reducible refine Calls.mono HC.out ?_); rintro e w5 ⟨rfl, hr5, hf5⟩; have HR5 := Aside0.mk hr5; have HF5 := Aside0.mk hf5; clear hr5 hf5)
            obtain ⟨y1, ⟨e, e0, en, et, eu, er, y2⟩, _⟩ := HPOST.out.yes rfl
            have y3 := y2 (t : Int) (by omega) (by omega)
            have hte : ¬ (t : Int) = e := by
             intro h
             subst h
             have := HHT.out
             have := HC2.out
             simp only [Int.toNat_natCast] at er
             omega
            rw [if_pos rfl, if_neg hte] at y3
            simp only [Int.toNat_natCast] at y3
            rw [HHT.out] at y3
            have HY3 := Lib.hid y3
            have HY1 := Aside0.mk y1
            clear y1 y2 y3 er eu et en e0 hte
            go_roundw
            case rel =>
             refine ⟨k, s'.2.1, s'.2.2, ⟨HX5.out⟩, HR5, HY1, ⟨Nat.le_trans hZ2.out (Nat.le_trans HD.out.size HF5.out.size)⟩, ⟨(hB4.out.trans (HD.out.mono (Nat.le_trans HSB.out hZ2.out))).trans (HF5.out.toBelow hBg hBh (Nat.le_trans HSB.out (Nat.le_trans hZ2.out HD.out.size)))⟩⟩
            case measure =>
             have h1 := moreW_eq HR5.out t hlt3 p.reach
             have h2 := HMW.out
             rw [HHT.out] at h2
             rw [HY3.out] at h1
             show moreW bh t p.reach _ < moreW bh t p.reach wr
             rw [show moreW bh t p.reach _ = _ from h1, show moreW bh t p.reach wr = _ from h2]
             have := HC2.out
             omega
           | false =>
            have HE : Hid (r = false) := by
             have := HX5.out
             rw [if_neg Bool.false_ne_true, Option.bind_some, show contT p.op p.team p.reach (6 - (t + 1)) t (false, s'.2) = some (false, s'.2) from rfl] at this
             injection this with this
             injection this with this
             exact this.symm
            go_wp2_with (go_at_call 106; (with_reducible refine Calls.mono HC.out ?_); rintro e w5 ⟨rfl, hr5, hf5⟩; have HR5 := Aside0.mk hr5; have HF5 := Aside0.mk hf5; clear hr5 hf5)
            refine bodyPost_ret (v := .bool false) (by simp [results, Try.results80, go_sem]) rfl ⟨by rw [HE.out], fun e => (by rw [HE.out] at e; cases e), ?_⟩
            exact (hB4.out.trans (HD.out.mono (Nat.le_trans HSB.out hZ2.out))).trans (HF5.out.toBelow hBg hBh (Nat.le_trans HSB.out (Nat.le_trans hZ2.out HD.out.size)))
          ·
           have b2 : decide (ht > p.reach) = false := decide_eq_false c2
           have HX4 : Hid (settleA p.op p.team p.reach (6 - (t + 1)) (t + 1) gv2 hv2 = some (r, gv, hv)) := by
            have := HX3.out
            rw [if_neg (fun h => c2 (by have := h.2; rw [Int.toNat_natCast, HHT.out] at this; exact this))] at this
            exact this
           clear c2
           go_upto_region 22 with fail
           go_quiet (fail)
           go_wp2
           go_roundw
           case rel => exact ⟨t + 1, gv2, hv2, by omega, by simp, ⟨HX4.out⟩, ⟨hR2.out.below (pw_below_drewN (Below.refl _ _) _)⟩, hI2, ⟨Nat.le_trans hZ2.out (pw_below_drewN (Below.refl wr.heap.size wr) _).size⟩, ⟨pw_below_drewN hB4.out _⟩⟩
           case measure => simp [intOf]; omega
      ·
       obtain rfl : t = 6 := by omega
       have HE : Hid (r = true ∧ gv = gv1) := by
        have := hX.out
        rw [show 6 - 6 = 0 from rfl, show settleA p.op p.team p.reach 0 6 gv1 hv1 = some (true, gv1, hv1) from rfl] at this
        injection this with this
        injection this with h1 h2
        injection h2 with h2 h3
        exact ⟨h1.symm, h2.symm⟩
       clear hX
       go_wp2
       refine bodyPost_ret (v := .bool true) (by simp [results, Try.results80, go_sem]) rfl ⟨by rw [HE.out.1], fun _ => ?_, hB3.out⟩
       rw [HE.out.2]
       have hgl : gv1.length = p.op.length := hR.out.gl
       refine ⟨some ⟨bg, 0, none⟩, p.op.length, by rw [hgl]; exact hR.out.hr, ?_⟩
       refine Kd.C_of_reads (d := 0) ⟨rfl, by omega, fun _ => ⟨_, rfl, fun j hj => ?_⟩⟩
       have hne : p.op ≠ [] := by
        intro e
        rw [hgl, e] at hj
        exact absurd hj (Nat.not_lt_zero _)
       have e : (⟨bg, 0, none⟩ : Addr).add j = ⟨bg, j, none⟩ := by unfold Addr.add; split <;> simp_all
       rw [e, (show GivAt wr bg gv1 from hR.out.hg hne).cell j hj]
end Go.Proofs.Ytmnamkcjldaoeaa.PAll
namespace Go.Proofs.Ytmnamkcjldaoeaa.PAll
open Go.RowKit Go.Proofs.YtmnamkcjldaoeaaW.PrintWords Go.Proofs.YtmnamkcjldaoeaaW.PrintLast Go.Proofs.YtmnamkcjldaoeaaW.PrintMore
attribute [local go_sem] max2_int min2_int max_two min_two max_three min_three max_four min_four   -- for this text's walks alone
set_option linter.unusedVariables false
set_option linter.unusedSimpArgs false
def awakeF (k : Nat)  : Option (Bool) := (kingpinlaw08_played.f).bind fun bt176 => ((league_Rank.f k bt176.1 bt176.2 (([1, 3] : List Int))).bind fun bt183 => ((kingpinlaw08_played.f).bind fun bt187 => ((league_After.f bt187.1 bt187.2 (([3, 2] : List Int))).bind fun bt194 => ((kingpinlaw08_played.f).bind fun bt198 => ((league_Reason.f bt198.1 bt198.2 2).bind fun bt202 => ((league_Build.f 4).bind fun bt206 => (if bt183.2 = 0 then ((kingpinlaw08_ints.f k bt183.1 (([1, 1, 3, 4] : List Int))).bind fun t213 => (if t213 = true then (if bt194.2 = 0 then ((kingpinlaw08_ints.f k bt194.1 (([2, 3, 2, 3] : List Int))).bind fun t217 => (if t217 = true then (if bt202.2 = 0 then ((kingpinlaw08_ints.f k bt202.1 (([0, 1, 3] : List Int))).bind fun t221 => (if t221 = true then (if bt206.2 = 0 then ((league_ProveSchedule.f 4 bt206.1 3).bind fun t222 => (if t222 = true then ((league_ProveSchedule.f 4 bt206.1 2).bind fun t223 => (some (!t223))) else (some false))) else (some false)) else (some false))) else (some false)) else (some false))) else (some false)) else (some false))) else (some false))))))))
set_option maxHeartbeats 8000000 in
set_option maxRecDepth 100000 in
theorem awake_calls (k : Nat) (r : Bool) (w : World) (hr : r = true) (h : awakeF k = some r) :
  Calls Try.prog 16 #[] w fun e w' => e = .returned (.bool r) ∧ Below w.heap.size w w' := by
 have HB := Aside0.mk (Below.refl w.heap.size w)
 have H : ((kingpinlaw08_played.f).bind fun bt176 => ((league_Rank.f k bt176.1 bt176.2 (([1, 3] : List Int))).bind fun bt183 => ((kingpinlaw08_played.f).bind fun bt187 => ((league_After.f bt187.1 bt187.2 (([3, 2] : List Int))).bind fun bt194 => ((kingpinlaw08_played.f).bind fun bt198 => ((league_Reason.f bt198.1 bt198.2 2).bind fun bt202 => ((league_Build.f 4).bind fun bt206 => (if bt183.2 = 0 then ((kingpinlaw08_ints.f k bt183.1 (([1, 1, 3, 4] : List Int))).bind fun t213 => (if t213 = true then (if bt194.2 = 0 then ((kingpinlaw08_ints.f k bt194.1 (([2, 3, 2, 3] : List Int))).bind fun t217 => (if t217 = true then (if bt202.2 = 0 then ((kingpinlaw08_ints.f k bt202.1 (([0, 1, 3] : List Int))).bind fun t221 => (if t221 = true then (if bt206.2 = 0 then ((league_ProveSchedule.f 4 bt206.1 3).bind fun t222 => (if t222 = true then ((league_ProveSchedule.f 4 bt206.1 2).bind fun t223 => (some (!t223))) else (some false))) else (some false)) else (some false))) else (some false)) else (some false))) else (some false)) else (some false))) else (some false))))))))) = some r := h
 clear h
 replace H := Option.bind_eq_some_iff.mp H
 obtain ⟨⟨t176, t177⟩, A10, H⟩ := H
 replace H : ((league_Rank.f k t176 t177 (([1, 3] : List Int))).bind fun bt183 => ((kingpinlaw08_played.f).bind fun bt187 => ((league_After.f bt187.1 bt187.2 (([3, 2] : List Int))).bind fun bt194 => ((kingpinlaw08_played.f).bind fun bt198 => ((league_Reason.f bt198.1 bt198.2 2).bind fun bt202 => ((league_Build.f 4).bind fun bt206 => (if bt183.2 = 0 then ((kingpinlaw08_ints.f k bt183.1 (([1, 1, 3, 4] : List Int))).bind fun t213 => (if t213 = true then (if bt194.2 = 0 then ((kingpinlaw08_ints.f k bt194.1 (([2, 3, 2, 3] : List Int))).bind fun t217 => (if t217 = true then (if bt202.2 = 0 then ((kingpinlaw08_ints.f k bt202.1 (([0, 1, 3] : List Int))).bind fun t221 => (if t221 = true then (if bt206.2 = 0 then ((league_ProveSchedule.f 4 bt206.1 3).bind fun t222 => (if t222 = true then ((league_ProveSchedule.f 4 bt206.1 2).bind fun t223 => (some (!t223))) else (some false))) else (some false)) else (some false))) else (some false)) else (some false))) else (some false)) else (some false))) else (some false)))))))) = some r := H
 have A1 := Aside0.mk A10
 clear A10
 obtain ⟨y180, hy180⟩ : ∃ y_ : List Int, y_ = (([1, 3] : List Int)) := ⟨_, rfl⟩
 replace H : ((league_Rank.f k t176 t177 y180).bind fun bt183 => ((kingpinlaw08_played.f).bind fun bt187 => ((league_After.f bt187.1 bt187.2 (([3, 2] : List Int))).bind fun bt194 => ((kingpinlaw08_played.f).bind fun bt198 => ((league_Reason.f bt198.1 bt198.2 2).bind fun bt202 => ((league_Build.f 4).bind fun bt206 => (if bt183.2 = 0 then ((kingpinlaw08_ints.f k bt183.1 (([1, 1, 3, 4] : List Int))).bind fun t213 => (if t213 = true then (if bt194.2 = 0 then ((kingpinlaw08_ints.f k bt194.1 (([2, 3, 2, 3] : List Int))).bind fun t217 => (if t217 = true then (if bt202.2 = 0 then ((kingpinlaw08_ints.f k bt202.1 (([0, 1, 3] : List Int))).bind fun t221 => (if t221 = true then (if bt206.2 = 0 then ((league_ProveSchedule.f 4 bt206.1 3).bind fun t222 => (if t222 = true then ((league_ProveSchedule.f 4 bt206.1 2).bind fun t223 => (some (!t223))) else (some false))) else (some false)) else (some false))) else (some false)) else (some false))) else (some false)) else (some false))) else (some false)))))))) = some r := by first | (rw [hy180]; with_reducible exact H) | (have H2_ := (Option.bind_some _ _).symm.trans H; rw [hy180]; with_reducible exact H2_) | (have H2_ := (Option.bind_some _ _).symm.trans H; with_reducible exact H2_) | with_reducible exact H | (rw [hy180]; exact H) | exact H
 have Ny180 := Aside0.mk hy180
 clear hy180
 replace H := Option.bind_eq_some_iff.mp H
 obtain ⟨⟨t183, t186⟩, A20, H⟩ := H
 replace H : ((kingpinlaw08_played.f).bind fun bt187 => ((league_After.f bt187.1 bt187.2 (([3, 2] : List Int))).bind fun bt194 => ((kingpinlaw08_played.f).bind fun bt198 => ((league_Reason.f bt198.1 bt198.2 2).bind fun bt202 => ((league_Build.f 4).bind fun bt206 => (if t186 = 0 then ((kingpinlaw08_ints.f k t183 (([1, 1, 3, 4] : List Int))).bind fun t213 => (if t213 = true then (if bt194.2 = 0 then ((kingpinlaw08_ints.f k bt194.1 (([2, 3, 2, 3] : List Int))).bind fun t217 => (if t217 = true then (if bt202.2 = 0 then ((kingpinlaw08_ints.f k bt202.1 (([0, 1, 3] : List Int))).bind fun t221 => (if t221 = true then (if bt206.2 = 0 then ((league_ProveSchedule.f 4 bt206.1 3).bind fun t222 => (if t222 = true then ((league_ProveSchedule.f 4 bt206.1 2).bind fun t223 => (some (!t223))) else (some false))) else (some false)) else (some false))) else (some false)) else (some false))) else (some false)) else (some false))) else (some false))))))) = some r := H
 have A2 := Aside0.mk A20
 clear A20
 replace H := Option.bind_eq_some_iff.mp H
 obtain ⟨⟨t187, t188⟩, A30, H⟩ := H
 replace H : ((league_After.f t187 t188 (([3, 2] : List Int))).bind fun bt194 => ((kingpinlaw08_played.f).bind fun bt198 => ((league_Reason.f bt198.1 bt198.2 2).bind fun bt202 => ((league_Build.f 4).bind fun bt206 => (if t186 = 0 then ((kingpinlaw08_ints.f k t183 (([1, 1, 3, 4] : List Int))).bind fun t213 => (if t213 = true then (if bt194.2 = 0 then ((kingpinlaw08_ints.f k bt194.1 (([2, 3, 2, 3] : List Int))).bind fun t217 => (if t217 = true then (if bt202.2 = 0 then ((kingpinlaw08_ints.f k bt202.1 (([0, 1, 3] : List Int))).bind fun t221 => (if t221 = true then (if bt206.2 = 0 then ((league_ProveSchedule.f 4 bt206.1 3).bind fun t222 => (if t222 = true then ((league_ProveSchedule.f 4 bt206.1 2).bind fun t223 => (some (!t223))) else (some false))) else (some false)) else (some false))) else (some false)) else (some false))) else (some false)) else (some false))) else (some false)))))) = some r := H
 have A3 := Aside0.mk A30
 clear A30
 obtain ⟨y191, hy191⟩ : ∃ y_ : List Int, y_ = (([3, 2] : List Int)) := ⟨_, rfl⟩
 replace H : ((league_After.f t187 t188 y191).bind fun bt194 => ((kingpinlaw08_played.f).bind fun bt198 => ((league_Reason.f bt198.1 bt198.2 2).bind fun bt202 => ((league_Build.f 4).bind fun bt206 => (if t186 = 0 then ((kingpinlaw08_ints.f k t183 (([1, 1, 3, 4] : List Int))).bind fun t213 => (if t213 = true then (if bt194.2 = 0 then ((kingpinlaw08_ints.f k bt194.1 (([2, 3, 2, 3] : List Int))).bind fun t217 => (if t217 = true then (if bt202.2 = 0 then ((kingpinlaw08_ints.f k bt202.1 (([0, 1, 3] : List Int))).bind fun t221 => (if t221 = true then (if bt206.2 = 0 then ((league_ProveSchedule.f 4 bt206.1 3).bind fun t222 => (if t222 = true then ((league_ProveSchedule.f 4 bt206.1 2).bind fun t223 => (some (!t223))) else (some false))) else (some false)) else (some false))) else (some false)) else (some false))) else (some false)) else (some false))) else (some false)))))) = some r := by first | (rw [hy191]; with_reducible exact H) | (have H2_ := (Option.bind_some _ _).symm.trans H; rw [hy191]; with_reducible exact H2_) | (have H2_ := (Option.bind_some _ _).symm.trans H; with_reducible exact H2_) | with_reducible exact H | (rw [hy191]; exact H) | exact H
 have Ny191 := Aside0.mk hy191
 clear hy191
 replace H := Option.bind_eq_some_iff.mp H
 obtain ⟨⟨t194, t197⟩, A40, H⟩ := H
 replace H : ((kingpinlaw08_played.f).bind fun bt198 => ((league_Reason.f bt198.1 bt198.2 2).bind fun bt202 => ((league_Build.f 4).bind fun bt206 => (if t186 = 0 then ((kingpinlaw08_ints.f k t183 (([1, 1, 3, 4] : List Int))).bind fun t213 => (if t213 = true then (if t197 = 0 then ((kingpinlaw08_ints.f k t194 (([2, 3, 2, 3] : List Int))).bind fun t217 => (if t217 = true then (if bt202.2 = 0 then ((kingpinlaw08_ints.f k bt202.1 (([0, 1, 3] : List Int))).bind fun t221 => (if t221 = true then (if bt206.2 = 0 then ((league_ProveSchedule.f 4 bt206.1 3).bind fun t222 => (if t222 = true then ((league_ProveSchedule.f 4 bt206.1 2).bind fun t223 => (some (!t223))) else (some false))) else (some false)) else (some false))) else (some false)) else (some false))) else (some false)) else (some false))) else (some false))))) = some r := H
 have A4 := Aside0.mk A40
 clear A40
 replace H := Option.bind_eq_some_iff.mp H
 obtain ⟨⟨t198, t199⟩, A50, H⟩ := H
 replace H : ((league_Reason.f t198 t199 2).bind fun bt202 => ((league_Build.f 4).bind fun bt206 => (if t186 = 0 then ((kingpinlaw08_ints.f k t183 (([1, 1, 3, 4] : List Int))).bind fun t213 => (if t213 = true then (if t197 = 0 then ((kingpinlaw08_ints.f k t194 (([2, 3, 2, 3] : List Int))).bind fun t217 => (if t217 = true then (if bt202.2 = 0 then ((kingpinlaw08_ints.f k bt202.1 (([0, 1, 3] : List Int))).bind fun t221 => (if t221 = true then (if bt206.2 = 0 then ((league_ProveSchedule.f 4 bt206.1 3).bind fun t222 => (if t222 = true then ((league_ProveSchedule.f 4 bt206.1 2).bind fun t223 => (some (!t223))) else (some false))) else (some false)) else (some false))) else (some false)) else (some false))) else (some false)) else (some false))) else (some false)))) = some r := H
 have A5 := Aside0.mk A50
 clear A50
 replace H := Option.bind_eq_some_iff.mp H
 obtain ⟨⟨t202, t205⟩, A60, H⟩ := H
 replace H : ((league_Build.f 4).bind fun bt206 => (if t186 = 0 then ((kingpinlaw08_ints.f k t183 (([1, 1, 3, 4] : List Int))).bind fun t213 => (if t213 = true then (if t197 = 0 then ((kingpinlaw08_ints.f k t194 (([2, 3, 2, 3] : List Int))).bind fun t217 => (if t217 = true then (if t205 = 0 then ((kingpinlaw08_ints.f k t202 (([0, 1, 3] : List Int))).bind fun t221 => (if t221 = true then (if bt206.2 = 0 then ((league_ProveSchedule.f 4 bt206.1 3).bind fun t222 => (if t222 = true then ((league_ProveSchedule.f 4 bt206.1 2).bind fun t223 => (some (!t223))) else (some false))) else (some false)) else (some false))) else (some false)) else (some false))) else (some false)) else (some false))) else (some false))) = some r := H
 have A6 := Aside0.mk A60
 clear A60
 replace H := Option.bind_eq_some_iff.mp H
 obtain ⟨⟨t206, t207⟩, A70, H⟩ := H
 replace H : (if t186 = 0 then ((kingpinlaw08_ints.f k t183 (([1, 1, 3, 4] : List Int))).bind fun t213 => (if t213 = true then (if t197 = 0 then ((kingpinlaw08_ints.f k t194 (([2, 3, 2, 3] : List Int))).bind fun t217 => (if t217 = true then (if t205 = 0 then ((kingpinlaw08_ints.f k t202 (([0, 1, 3] : List Int))).bind fun t221 => (if t221 = true then (if t207 = 0 then ((league_ProveSchedule.f 4 t206 3).bind fun t222 => (if t222 = true then ((league_ProveSchedule.f 4 t206 2).bind fun t223 => (some (!t223))) else (some false))) else (some false)) else (some false))) else (some false)) else (some false))) else (some false)) else (some false))) else (some false)) = some r := H
 have A7 := Aside0.mk A70
 clear A70
 by_cases c8 : t186 = 0
 ·
  rw [if_pos c8] at H
  have c8b0 : (t186 == 0) = true := beq_iff_eq.mpr c8
  have c8b1 : (t186 != 0) = false := bne_eq_false_iff_eq.mpr c8
  clear c8
  obtain ⟨y210, hy210⟩ : ∃ y_ : List Int, y_ = (([1, 1, 3, 4] : List Int)) := ⟨_, rfl⟩
  replace H : ((kingpinlaw08_ints.f k t183 y210).bind fun t213 => (if t213 = true then (if t197 = 0 then ((kingpinlaw08_ints.f k t194 (([2, 3, 2, 3] : List Int))).bind fun t217 => (if t217 = true then (if t205 = 0 then ((kingpinlaw08_ints.f k t202 (([0, 1, 3] : List Int))).bind fun t221 => (if t221 = true then (if t207 = 0 then ((league_ProveSchedule.f 4 t206 3).bind fun t222 => (if t222 = true then ((league_ProveSchedule.f 4 t206 2).bind fun t223 => (some (!t223))) else (some false))) else (some false)) else (some false))) else (some false)) else (some false))) else (some false)) else (some false))) = some r := by first | (rw [hy210]; with_reducible exact H) | (have H2_ := (Option.bind_some _ _).symm.trans H; rw [hy210]; with_reducible exact H2_) | (have H2_ := (Option.bind_some _ _).symm.trans H; with_reducible exact H2_) | with_reducible exact H | (rw [hy210]; exact H) | exact H
  have Ny210 := Aside0.mk hy210
  clear hy210
  replace H := Option.bind_eq_some_iff.mp H
  obtain ⟨t213, A90, H⟩ := H
  replace H : (if t213 = true then (if t197 = 0 then ((kingpinlaw08_ints.f k t194 (([2, 3, 2, 3] : List Int))).bind fun t217 => (if t217 = true then (if t205 = 0 then ((kingpinlaw08_ints.f k t202 (([0, 1, 3] : List Int))).bind fun t221 => (if t221 = true then (if t207 = 0 then ((league_ProveSchedule.f 4 t206 3).bind fun t222 => (if t222 = true then ((league_ProveSchedule.f 4 t206 2).bind fun t223 => (some (!t223))) else (some false))) else (some false)) else (some false))) else (some false)) else (some false))) else (some false)) else (some false)) = some r := H
  have A9 := Aside0.mk A90
  clear A90
  by_cases c10 : t213 = true
  ·
   subst c10
   have H1 : (if t197 = 0 then ((kingpinlaw08_ints.f k t194 (([2, 3, 2, 3] : List Int))).bind fun t217 => (if t217 = true then (if t205 = 0 then ((kingpinlaw08_ints.f k t202 (([0, 1, 3] : List Int))).bind fun t221 => (if t221 = true then (if t207 = 0 then ((league_ProveSchedule.f 4 t206 3).bind fun t222 => (if t222 = true then ((league_ProveSchedule.f 4 t206 2).bind fun t223 => (some (!t223))) else (some false))) else (some false)) else (some false))) else (some false)) else (some false))) else (some false)) = some r := by rw [if_pos rfl] at H; exact H
   clear H
   have H := H1
   clear H1
   by_cases c11 : t197 = 0
   ·
    rw [if_pos c11] at H
    have c11b0 : (t197 == 0) = true := beq_iff_eq.mpr c11
    have c11b1 : (t197 != 0) = false := bne_eq_false_iff_eq.mpr c11
    clear c11
    obtain ⟨y214, hy214⟩ : ∃ y_ : List Int, y_ = (([2, 3, 2, 3] : List Int)) := ⟨_, rfl⟩
    replace H : ((kingpinlaw08_ints.f k t194 y214).bind fun t217 => (if t217 = true then (if t205 = 0 then ((kingpinlaw08_ints.f k t202 (([0, 1, 3] : List Int))).bind fun t221 => (if t221 = true then (if t207 = 0 then ((league_ProveSchedule.f 4 t206 3).bind fun t222 => (if t222 = true then ((league_ProveSchedule.f 4 t206 2).bind fun t223 => (some (!t223))) else (some false))) else (some false)) else (some false))) else (some false)) else (some false))) = some r := by first | (rw [hy214]; with_reducible exact H) | (have H2_ := (Option.bind_some _ _).symm.trans H; rw [hy214]; with_reducible exact H2_) | (have H2_ := (Option.bind_some _ _).symm.trans H; with_reducible exact H2_) | with_reducible exact H | (rw [hy214]; exact H) | exact H
    have Ny214 := Aside0.mk hy214
    clear hy214
    replace H := Option.bind_eq_some_iff.mp H
    obtain ⟨t217, A120, H⟩ := H
    replace H : (if t217 = true then (if t205 = 0 then ((kingpinlaw08_ints.f k t202 (([0, 1, 3] : List Int))).bind fun t221 => (if t221 = true then (if t207 = 0 then ((league_ProveSchedule.f 4 t206 3).bind fun t222 => (if t222 = true then ((league_ProveSchedule.f 4 t206 2).bind fun t223 => (some (!t223))) else (some false))) else (some false)) else (some false))) else (some false)) else (some false)) = some r := H
    have A12 := Aside0.mk A120
    clear A120
    by_cases c13 : t217 = true
    ·
     subst c13
     have H1 : (if t205 = 0 then ((kingpinlaw08_ints.f k t202 (([0, 1, 3] : List Int))).bind fun t221 => (if t221 = true then (if t207 = 0 then ((league_ProveSchedule.f 4 t206 3).bind fun t222 => (if t222 = true then ((league_ProveSchedule.f 4 t206 2).bind fun t223 => (some (!t223))) else (some false))) else (some false)) else (some false))) else (some false)) = some r := by rw [if_pos rfl] at H; exact H
     clear H
     have H := H1
     clear H1
     by_cases c14 : t205 = 0
     ·
      rw [if_pos c14] at H
      have c14b0 : (t205 == 0) = true := beq_iff_eq.mpr c14
      have c14b1 : (t205 != 0) = false := bne_eq_false_iff_eq.mpr c14
      clear c14
      obtain ⟨y218, hy218⟩ : ∃ y_ : List Int, y_ = (([0, 1, 3] : List Int)) := ⟨_, rfl⟩
      replace H : ((kingpinlaw08_ints.f k t202 y218).bind fun t221 => (if t221 = true then (if t207 = 0 then ((league_ProveSchedule.f 4 t206 3).bind fun t222 => (if t222 = true then ((league_ProveSchedule.f 4 t206 2).bind fun t223 => (some (!t223))) else (some false))) else (some false)) else (some false))) = some r := by first | (rw [hy218]; with_reducible exact H) | (have H2_ := (Option.bind_some _ _).symm.trans H; rw [hy218]; with_reducible exact H2_) | (have H2_ := (Option.bind_some _ _).symm.trans H; with_reducible exact H2_) | with_reducible exact H | (rw [hy218]; exact H) | exact H
      have Ny218 := Aside0.mk hy218
      clear hy218
      replace H := Option.bind_eq_some_iff.mp H
      obtain ⟨t221, A150, H⟩ := H
      replace H : (if t221 = true then (if t207 = 0 then ((league_ProveSchedule.f 4 t206 3).bind fun t222 => (if t222 = true then ((league_ProveSchedule.f 4 t206 2).bind fun t223 => (some (!t223))) else (some false))) else (some false)) else (some false)) = some r := H
      have A15 := Aside0.mk A150
      clear A150
      by_cases c16 : t221 = true
      ·
       subst c16
       have H1 : (if t207 = 0 then ((league_ProveSchedule.f 4 t206 3).bind fun t222 => (if t222 = true then ((league_ProveSchedule.f 4 t206 2).bind fun t223 => (some (!t223))) else (some false))) else (some false)) = some r := by rw [if_pos rfl] at H; exact H
       clear H
       have H := H1
       clear H1
       by_cases c17 : t207 = 0
       ·
        rw [if_pos c17] at H
        have c17b0 : (t207 == 0) = true := beq_iff_eq.mpr c17
        have c17b1 : (t207 != 0) = false := bne_eq_false_iff_eq.mpr c17
        clear c17
        replace H := Option.bind_eq_some_iff.mp H
        obtain ⟨t222, A180, H⟩ := H
        replace H : (if t222 = true then ((league_ProveSchedule.f 4 t206 2).bind fun t223 => (some (!t223))) else (some false)) = some r := H
        have A18 := Aside0.mk A180
        clear A180
        by_cases c19 : t222 = true
        ·
         subst c19
         have H1 : ((league_ProveSchedule.f 4 t206 2).bind fun t223 => (some (!t223))) = some r := by rw [if_pos rfl] at H; exact H
         clear H
         have H := H1
         clear H1
         replace H := Option.bind_eq_some_iff.mp H
         obtain ⟨t223, A200, H⟩ := H
         replace H : (some (!t223)) = some r := H
         have A20 := Aside0.mk A200
         clear A200
         obtain rfl := Option.some.inj H
         go_enter Try.func16, Try.ntmps16
         go_wp2_with (first | ((with_reducible refine gate_callee (f := 49) rfl ?_); refine goesL_ (some 10) rfl rfl Try.func49 (by kernel_rfl) rfl #[] rfl (by (try simp only [List.map_toArray, List.map_cons, List.map_nil]); first | done | rfl | (simp only [List.length_drop, List.length_take]; rfl)) ?_; (with_reducible refine (kingpinlaw08_played.calls  t176 t177 _ A1.out).mono ?_); rintro e w21 ⟨v178, rfl, ho0, hb⟩; refine ⟨_, rfl, ?_⟩; have n0_ := Aside0.mk (Kd.R_lower ho0 (below_size (by repeat (first | (with_reducible first | exact HB.out | apply below_alloc | apply pw_below_drewN | apply below_drew1) | exact HB.out)))); have n1_ := Aside0.mk (below_step (by repeat (first | (with_reducible first | exact HB.out | apply below_alloc | apply pw_below_drewN | apply below_drew1) | exact HB.out)) hb); clear HB; have HO179 := n0_; have HB := n1_; clear n0_ n1_; (try clear hb); (try clear hb2); (try clear hk); (try clear hi); (try clear ho0)) | ((with_reducible refine gate_dst (N := 11) rfl ?_); (try (refine gate_guard (by rfl) ?_; dsimp only)); refine Kd.R_lit (Kd.int .u8) _ 5 ?hg (N := 11) ?hd (xs := ([1, 3] : List Int)) (inner := [.int .u8 1, .int .u8 3]) (ok := fun _ => True) (okp := fun _ => True) ?hr ?hp (fun _ hk => hk) trivial (Below.refl _ _) (Nat.le_refl _) (by simp) ?_; (case hd => rfl); (case hg => rfl); (case hr => first | (go_simp; done) | (go_simp; rfl)); (case hp => exact (Reps.one (show Kd.M (Kd.int .u8) _ _ _ 1 [.int .u8 1] from rfl) (Reps.one (show Kd.M (Kd.int .u8) _ _ _ 3 [.int .u8 3] from rfl) (Reps.none _ _)))); intro v181 w22 ho23 hb hg_ hnew_; clear hg_ hnew_; (first | rw [← Ny180.out] at ho23 | (simp only [Int.reduceToNat] at ho23; rw [← Ny180.out] at ho23)); have n0_ := Aside0.mk (Kd.R_below (by (with_reducible repeat (first | apply Kd.R_alloc | apply Kd.R_drewN | apply Kd.R_drew)); exact HO179.out) hb); have n1_ := Aside0.mk (Kd.R_lower ho23 (below_size (by repeat (first | (with_reducible first | exact HB.out | apply below_alloc | apply pw_below_drewN | apply below_drew1) | exact HB.out)))); have n2_ := Aside0.mk (below_step (by repeat (first | (with_reducible first | exact HB.out | apply below_alloc | apply pw_below_drewN | apply below_drew1) | exact HB.out)) hb); clear HO179; clear HB; have HO179 := n0_; have HO182 := n1_; have HB := n2_; clear n0_ n1_ n2_; clear hb ho23; obtain ⟨Ao24, co24, eo24⟩ := Kd.R_slice HO179.out; subst eo24; obtain ⟨Ao25, co25, eo25⟩ := Kd.R_slice HO182.out; subst eo25) | ((with_reducible refine gate_callee (f := 19) rfl ?_); refine goesL_ (some 12) rfl rfl Try.func19 (by kernel_rfl) rfl #[.agg #[.int .i64 t176, .slice Ao24 t177.length co24], .slice Ao25 y180.length co25] rfl (by (try simp only [List.map_toArray, List.map_cons, List.map_nil]); first | done | rfl | (simp only [List.length_drop, List.length_take]; rfl)) ?_; (with_reducible refine (league_Rank.calls k t176 _ _ t177 _ _ y180 t183 t186 _ ?side1 ?side2 ?side3 ?side4 A2.out).mono ?_); (case side1 => repeat (first | exact (Kd.R_reads' HO179.out).2.2 | (with_reducible refine Kd.C_alloc ?_ _) | (with_reducible refine Kd.C_drewN ?_ _) | (with_reducible refine Kd.C_drew ?_))); (case side2 => exact (Kd.R_reads' HO179.out).2.1); (case side3 => repeat (first | exact (Kd.R_reads' HO182.out).2.2 | (with_reducible refine Kd.C_alloc ?_ _) | (with_reducible refine Kd.C_drewN ?_ _) | (with_reducible refine Kd.C_drew ?_))); (case side4 => exact (Kd.R_reads' HO182.out).2.1); rintro e w26 ⟨v184, rfl, ho0, hb⟩; refine ⟨_, rfl, ?_⟩; have n0_ := Aside0.mk (Kd.R_below (by (with_reducible repeat (first | apply Kd.R_alloc | apply Kd.R_drewN | apply Kd.R_drew)); exact HO179.out) hb); have n1_ := Aside0.mk (Kd.R_below (by (with_reducible repeat (first | apply Kd.R_alloc | apply Kd.R_drewN | apply Kd.R_drew)); exact HO182.out) hb); have n2_ := Aside0.mk (Kd.R_lower ho0 (below_size (by repeat (first | (with_reducible first | exact HB.out | apply below_alloc | apply pw_below_drewN | apply below_drew1) | exact HB.out)))); have n3_ := Aside0.mk (below_step (by repeat (first | (with_reducible first | exact HB.out | apply below_alloc | apply pw_below_drewN | apply below_drew1) | exact HB.out)) hb); clear HO179; clear HO182; clear HB; have HO179 := n0_; have HO182 := n1_; have HO185 := n2_; have HB := n3_; clear n0_ n1_ n2_ n3_; (try clear hb); (try clear hb2); (try clear hk); (try clear hi); (try clear ho0)) | ((with_reducible refine gate_callee (f := 49) rfl ?_); refine goesL_ (some 16) rfl rfl Try.func49 (by kernel_rfl) rfl #[] rfl (by (try simp only [List.map_toArray, List.map_cons, List.map_nil]); first | done | rfl | (simp only [List.length_drop, List.length_take]; rfl)) ?_; (with_reducible refine (kingpinlaw08_played.calls  t187 t188 _ A3.out).mono ?_); rintro e w27 ⟨v189, rfl, ho0, hb⟩; refine ⟨_, rfl, ?_⟩; have n0_ := Aside0.mk (Kd.R_elder' (by (with_reducible repeat (first | apply Kd.R_alloc | apply Kd.R_drewN | apply Kd.R_drew)); exact HO179.out) (Kd.R_base ho0) hb); have n1_ := Aside0.mk (Kd.R_below (by (with_reducible repeat (first | apply Kd.R_alloc | apply Kd.R_drewN | apply Kd.R_drew)); exact HO182.out) hb); have n2_ := Aside0.mk (Kd.R_below (by (with_reducible repeat (first | apply Kd.R_alloc | apply Kd.R_drewN | apply Kd.R_drew)); exact HO185.out) hb); have n3_ := Aside0.mk (Kd.R_lower (Kd.R_new' ho0 (Kd.R_lt (by (with_reducible repeat (first | apply Kd.R_alloc | apply Kd.R_drewN | apply Kd.R_drew)); exact HO179.out))) (below_size (by repeat (first | (with_reducible first | exact HB.out | apply below_alloc | apply pw_below_drewN | apply below_drew1) | exact HB.out)))); have n4_ := Aside0.mk (below_step (by repeat (first | (with_reducible first | exact HB.out | apply below_alloc | apply pw_below_drewN | apply below_drew1) | exact HB.out)) hb); clear HO179; clear HO182; clear HO185; clear HB; have HO179 := n0_; have HO182 := n1_; have HO185 := n2_; have HO190 := n3_; have HB := n4_; clear n0_ n1_ n2_ n3_ n4_; (try clear hb); (try clear hb2); (try clear hk); (try clear hi); (try clear ho0)) | ((with_reducible refine gate_dst (N := 17) rfl ?_); (try (refine gate_guard (by rfl) ?_; dsimp only)); refine Kd.R_lit (Kd.int .u8) _ 5 ?hg (N := 17) ?hd (xs := ([3, 2] : List Int)) (inner := [.int .u8 3, .int .u8 2]) (ok := fun _ => True) (okp := fun _ => True) ?hr ?hp (fun _ hk => hk) trivial (Below.refl _ _) (Nat.le_refl _) (by simp) ?_; (case hd => rfl); (case hg => rfl); (case hr => first | (go_simp; done) | (go_simp; rfl)); (case hp => exact (Reps.one (show Kd.M (Kd.int .u8) _ _ _ 3 [.int .u8 3] from rfl) (Reps.one (show Kd.M (Kd.int .u8) _ _ _ 2 [.int .u8 2] from rfl) (Reps.none _ _)))); intro v192 w28 ho29 hb hg_ hnew_; clear hg_ hnew_; (first | rw [← Ny191.out] at ho29 | (simp only [Int.reduceToNat] at ho29; rw [← Ny191.out] at ho29)); have n0_ := Aside0.mk (Kd.R_below (by (with_reducible repeat (first | apply Kd.R_alloc | apply Kd.R_drewN | apply Kd.R_drew)); exact HO179.out) hb); have n1_ := Aside0.mk (Kd.R_elder' (by (with_reducible repeat (first | apply Kd.R_alloc | apply Kd.R_drewN | apply Kd.R_drew)); exact HO182.out) (Kd.R_base ho29) hb); have n2_ := Aside0.mk (Kd.R_below (by (with_reducible repeat (first | apply Kd.R_alloc | apply Kd.R_drewN | apply Kd.R_drew)); exact HO185.out) hb); have n3_ := Aside0.mk (Kd.R_below (by (with_reducible repeat (first | apply Kd.R_alloc | apply Kd.R_drewN | apply Kd.R_drew)); exact HO190.out) hb); have n4_ := Aside0.mk (Kd.R_lower (Kd.R_new' ho29 (Kd.R_lt (by (with_reducible repeat (first | apply Kd.R_alloc | apply Kd.R_drewN | apply Kd.R_drew)); exact HO182.out))) (below_size (by repeat (first | (with_reducible first | exact HB.out | apply below_alloc | apply pw_below_drewN | apply below_drew1) | exact HB.out)))); have n5_ := Aside0.mk (below_step (by repeat (first | (with_reducible first | exact HB.out | apply below_alloc | apply pw_below_drewN | apply below_drew1) | exact HB.out)) hb); clear HO179; clear HO182; clear HO185; clear HO190; clear HB; have HO179 := n0_; have HO182 := n1_; have HO185 := n2_; have HO190 := n3_; have HO193 := n4_; have HB := n5_; clear n0_ n1_ n2_ n3_ n4_ n5_; clear hb ho29; obtain ⟨Ao30, co30, eo30⟩ := Kd.R_slice HO190.out; subst eo30; obtain ⟨Ao31, co31, eo31⟩ := Kd.R_slice HO193.out; subst eo31) | ((with_reducible refine gate_callee (f := 25) rfl ?_); refine goesL_ (some 18) rfl rfl Try.func25 (by kernel_rfl) rfl #[.agg #[.int .i64 t187, .slice Ao30 t188.length co30], .slice Ao31 y191.length co31] rfl (by (try simp only [List.map_toArray, List.map_cons, List.map_nil]); first | done | rfl | (simp only [List.length_drop, List.length_take]; rfl)) ?_; (with_reducible refine (league_After.calls t187 _ _ t188 _ _ y191 t194 t197 _ ?side1 ?side2 ?side3 ?side4 A4.out).mono ?_); (case side1 => repeat (first | exact (Kd.R_reads' HO190.out).2.2 | (with_reducible refine Kd.C_alloc ?_ _) | (with_reducible refine Kd.C_drewN ?_ _) | (with_reducible refine Kd.C_drew ?_))); (case side2 => exact (Kd.R_reads' HO190.out).2.1); (case side3 => repeat (first | exact (Kd.R_reads' HO193.out).2.2 | (with_reducible refine Kd.C_alloc ?_ _) | (with_reducible refine Kd.C_drewN ?_ _) | (with_reducible refine Kd.C_drew ?_))); (case side4 => exact (Kd.R_reads' HO193.out).2.1); rintro e w32 ⟨v195, rfl, ho0, hb⟩; refine ⟨_, rfl, ?_⟩; have n0_ := Aside0.mk (Kd.R_below (by (with_reducible repeat (first | apply Kd.R_alloc | apply Kd.R_drewN | apply Kd.R_drew)); exact HO179.out) hb); have n1_ := Aside0.mk (Kd.R_below (by (with_reducible repeat (first | apply Kd.R_alloc | apply Kd.R_drewN | apply Kd.R_drew)); exact HO182.out) hb); have n2_ := Aside0.mk (Kd.R_elder' (by (with_reducible repeat (first | apply Kd.R_alloc | apply Kd.R_drewN | apply Kd.R_drew)); exact HO185.out) (Kd.R_base ho0) hb); have n3_ := Aside0.mk (Kd.R_below (by (with_reducible repeat (first | apply Kd.R_alloc | apply Kd.R_drewN | apply Kd.R_drew)); exact HO190.out) hb); have n4_ := Aside0.mk (Kd.R_below (by (with_reducible repeat (first | apply Kd.R_alloc | apply Kd.R_drewN | apply Kd.R_drew)); exact HO193.out) hb); have n5_ := Aside0.mk (Kd.R_lower (Kd.R_new' ho0 (Kd.R_lt (by (with_reducible repeat (first | apply Kd.R_alloc | apply Kd.R_drewN | apply Kd.R_drew)); exact HO185.out))) (below_size (by repeat (first | (with_reducible first | exact HB.out | apply below_alloc | apply pw_below_drewN | apply below_drew1) | exact HB.out)))); have n6_ := Aside0.mk (below_step (by repeat (first | (with_reducible first | exact HB.out | apply below_alloc | apply pw_below_drewN | apply below_drew1) | exact HB.out)) hb); clear HO179; clear HO182; clear HO185; clear HO190; clear HO193; clear HB; have HO179 := n0_; have HO182 := n1_; have HO185 := n2_; have HO190 := n3_; have HO193 := n4_; have HO196 := n5_; have HB := n6_; clear n0_ n1_ n2_ n3_ n4_ n5_ n6_; (try clear hb); (try clear hb2); (try clear hk); (try clear hi); (try clear ho0)) | ((with_reducible refine gate_callee (f := 49) rfl ?_); refine goesL_ (some 22) rfl rfl Try.func49 (by kernel_rfl) rfl #[] rfl (by (try simp only [List.map_toArray, List.map_cons, List.map_nil]); first | done | rfl | (simp only [List.length_drop, List.length_take]; rfl)) ?_; (with_reducible refine (kingpinlaw08_played.calls  t198 t199 _ A5.out).mono ?_); rintro e w33 ⟨v200, rfl, ho0, hb⟩; refine ⟨_, rfl, ?_⟩; have n0_ := Aside0.mk (Kd.R_elder' (by (with_reducible repeat (first | apply Kd.R_alloc | apply Kd.R_drewN | apply Kd.R_drew)); exact HO179.out) (Kd.R_base ho0) hb); have n1_ := Aside0.mk (Kd.R_below (by (with_reducible repeat (first | apply Kd.R_alloc | apply Kd.R_drewN | apply Kd.R_drew)); exact HO182.out) hb); have n2_ := Aside0.mk (Kd.R_below (by (with_reducible repeat (first | apply Kd.R_alloc | apply Kd.R_drewN | apply Kd.R_drew)); exact HO185.out) hb); have n3_ := Aside0.mk (Kd.R_elder' (by (with_reducible repeat (first | apply Kd.R_alloc | apply Kd.R_drewN | apply Kd.R_drew)); exact HO190.out) (Kd.R_base ho0) hb); have n4_ := Aside0.mk (Kd.R_below (by (with_reducible repeat (first | apply Kd.R_alloc | apply Kd.R_drewN | apply Kd.R_drew)); exact HO193.out) hb); have n5_ := Aside0.mk (Kd.R_below (by (with_reducible repeat (first | apply Kd.R_alloc | apply Kd.R_drewN | apply Kd.R_drew)); exact HO196.out) hb); have n6_ := Aside0.mk (Kd.R_lower (Kd.R_new' (Kd.R_new' ho0 (Kd.R_lt (by (with_reducible repeat (first | apply Kd.R_alloc | apply Kd.R_drewN | apply Kd.R_drew)); exact HO179.out))) (Kd.R_lt (by (with_reducible repeat (first | apply Kd.R_alloc | apply Kd.R_drewN | apply Kd.R_drew)); exact HO190.out))) (below_size (by repeat (first | (with_reducible first | exact HB.out | apply below_alloc | apply pw_below_drewN | apply below_drew1) | exact HB.out)))); have n7_ := Aside0.mk (below_step (by repeat (first | (with_reducible first | exact HB.out | apply below_alloc | apply pw_below_drewN | apply below_drew1) | exact HB.out)) hb); clear HO179; clear HO182; clear HO185; clear HO190; clear HO193; clear HO196; clear HB; have HO179 := n0_; have HO182 := n1_; have HO185 := n2_; have HO190 := n3_; have HO193 := n4_; have HO196 := n5_; have HO201 := n6_; have HB := n7_; clear n0_ n1_ n2_ n3_ n4_ n5_ n6_ n7_; (try clear hb); (try clear hb2); (try clear hk); (try clear hi); (try clear ho0); obtain ⟨Ao34, co34, eo34⟩ := Kd.R_slice HO201.out; subst eo34) | ((with_reducible refine gate_callee (f := 37) rfl ?_); refine goesL_ (some 23) rfl rfl Try.func37 (by kernel_rfl) rfl #[.agg #[.int .i64 t198, .slice Ao34 t199.length co34], .int .i64 2] rfl (by (try simp only [List.map_toArray, List.map_cons, List.map_nil]); first | done | rfl | (simp only [List.length_drop, List.length_take]; rfl)) ?_; (with_reducible refine (league_Reason.calls t198 _ _ t199 2 t202 t205 _ ?side1 ?side2 A6.out).mono ?_); (case side1 => repeat (first | exact (Kd.R_reads' HO201.out).2.2 | (with_reducible refine Kd.C_alloc ?_ _) | (with_reducible refine Kd.C_drewN ?_ _) | (with_reducible refine Kd.C_drew ?_))); (case side2 => exact (Kd.R_reads' HO201.out).2.1); rintro e w35 ⟨v203, rfl, ho0, hb⟩; refine ⟨_, rfl, ?_⟩; have n0_ := Aside0.mk (Kd.R_below (by (with_reducible repeat (first | apply Kd.R_alloc | apply Kd.R_drewN | apply Kd.R_drew)); exact HO179.out) hb); have n1_ := Aside0.mk (Kd.R_below (by (with_reducible repeat (first | apply Kd.R_alloc | apply Kd.R_drewN | apply Kd.R_drew)); exact HO182.out) hb); have n2_ := Aside0.mk (Kd.R_elder' (by (with_reducible repeat (first | apply Kd.R_alloc | apply Kd.R_drewN | apply Kd.R_drew)); exact HO185.out) (Kd.R_base ho0) hb); have n3_ := Aside0.mk (Kd.R_below (by (with_reducible repeat (first | apply Kd.R_alloc | apply Kd.R_drewN | apply Kd.R_drew)); exact HO190.out) hb); have n4_ := Aside0.mk (Kd.R_below (by (with_reducible repeat (first | apply Kd.R_alloc | apply Kd.R_drewN | apply Kd.R_drew)); exact HO193.out) hb); have n5_ := Aside0.mk (Kd.R_elder' (by (with_reducible repeat (first | apply Kd.R_alloc | apply Kd.R_drewN | apply Kd.R_drew)); exact HO196.out) (Kd.R_base ho0) hb); have n6_ := Aside0.mk (Kd.R_below (by (with_reducible repeat (first | apply Kd.R_alloc | apply Kd.R_drewN | apply Kd.R_drew)); exact HO201.out) hb); have n7_ := Aside0.mk (Kd.R_lower (Kd.R_new' (Kd.R_new' ho0 (Kd.R_lt (by (with_reducible repeat (first | apply Kd.R_alloc | apply Kd.R_drewN | apply Kd.R_drew)); exact HO185.out))) (Kd.R_lt (by (with_reducible repeat (first | apply Kd.R_alloc | apply Kd.R_drewN | apply Kd.R_drew)); exact HO196.out))) (below_size (by repeat (first | (with_reducible first | exact HB.out | apply below_alloc | apply pw_below_drewN | apply below_drew1) | exact HB.out)))); have n8_ := Aside0.mk (below_step (by repeat (first | (with_reducible first | exact HB.out | apply below_alloc | apply pw_below_drewN | apply below_drew1) | exact HB.out)) hb); clear HO179; clear HO182; clear HO185; clear HO190; clear HO193; clear HO196; clear HO201; clear HB; have HO179 := n0_; have HO182 := n1_; have HO185 := n2_; have HO190 := n3_; have HO193 := n4_; have HO196 := n5_; have HO201 := n6_; have HO204 := n7_; have HB := n8_; clear n0_ n1_ n2_ n3_ n4_ n5_ n6_ n7_ n8_; (try clear hb); (try clear hb2); (try clear hk); (try clear hi); (try clear ho0)) | ((with_reducible refine gate_callee (f := 29) rfl ?_); refine goesL_ (some 27) rfl rfl Try.func29 (by kernel_rfl) rfl #[.int .i64 4] rfl (by (try simp only [List.map_toArray, List.map_cons, List.map_nil]); first | done | rfl | (simp only [List.length_drop, List.length_take]; rfl)) ?_; (with_reducible refine (league_Build.calls 4 t206 t207 _ A7.out).mono ?_); rintro e w36 ⟨v208, rfl, ho0, hb⟩; refine ⟨_, rfl, ?_⟩; have n0_ := Aside0.mk (Kd.R_below (by (with_reducible repeat (first | apply Kd.R_alloc | apply Kd.R_drewN | apply Kd.R_drew)); exact HO179.out) hb); have n1_ := Aside0.mk (Kd.R_below (by (with_reducible repeat (first | apply Kd.R_alloc | apply Kd.R_drewN | apply Kd.R_drew)); exact HO182.out) hb); have n2_ := Aside0.mk (Kd.R_below (by (with_reducible repeat (first | apply Kd.R_alloc | apply Kd.R_drewN | apply Kd.R_drew)); exact HO185.out) hb); have n3_ := Aside0.mk (Kd.R_below (by (with_reducible repeat (first | apply Kd.R_alloc | apply Kd.R_drewN | apply Kd.R_drew)); exact HO190.out) hb); have n4_ := Aside0.mk (Kd.R_below (by (with_reducible repeat (first | apply Kd.R_alloc | apply Kd.R_drewN | apply Kd.R_drew)); exact HO193.out) hb); have n5_ := Aside0.mk (Kd.R_below (by (with_reducible repeat (first | apply Kd.R_alloc | apply Kd.R_drewN | apply Kd.R_drew)); exact HO196.out) hb); have n6_ := Aside0.mk (Kd.R_below (by (with_reducible repeat (first | apply Kd.R_alloc | apply Kd.R_drewN | apply Kd.R_drew)); exact HO201.out) hb); have n7_ := Aside0.mk (Kd.R_below (by (with_reducible repeat (first | apply Kd.R_alloc | apply Kd.R_drewN | apply Kd.R_drew)); exact HO204.out) hb); have n8_ := Aside0.mk (Kd.S_lower ho0 (below_size (by repeat (first | (with_reducible first | exact HB.out | apply below_alloc | apply pw_below_drewN | apply below_drew1) | exact HB.out)))); have n9_ := Aside0.mk (below_step (by repeat (first | (with_reducible first | exact HB.out | apply below_alloc | apply pw_below_drewN | apply below_drew1) | exact HB.out)) hb); clear HO179; clear HO182; clear HO185; clear HO190; clear HO193; clear HO196; clear HO201; clear HO204; clear HB; have HO179 := n0_; have HO182 := n1_; have HO185 := n2_; have HO190 := n3_; have HO193 := n4_; have HO196 := n5_; have HO201 := n6_; have HO204 := n7_; have HO209 := n8_; have HB := n9_; clear n0_ n1_ n2_ n3_ n4_ n5_ n6_ n7_ n8_ n9_; (try clear hb); (try clear hb2); (try clear hk); (try clear hi); (try clear ho0)) | ((with_reducible refine gate_dst (N := 34) rfl ?_); (try (refine gate_guard (by rfl) ?_; dsimp only)); refine Kd.R_lit (Kd.int .i64) _ 3 ?hg (N := 34) ?hd (xs := ([1, 1, 3, 4] : List Int)) (inner := [.int .i64 1, .int .i64 1, .int .i64 3, .int .i64 4]) (ok := fun _ => True) (okp := fun _ => True) ?hr ?hp (fun _ hk => hk) trivial (Below.refl _ _) (Nat.le_refl _) (by simp) ?_; (case hd => rfl); (case hg => rfl); (case hr => first | (go_simp; done) | (go_simp; rfl)); (case hp => exact (Reps.one (show Kd.M (Kd.int .i64) _ _ _ 1 [.int .i64 1] from rfl) (Reps.one (show Kd.M (Kd.int .i64) _ _ _ 1 [.int .i64 1] from rfl) (Reps.one (show Kd.M (Kd.int .i64) _ _ _ 3 [.int .i64 3] from rfl) (Reps.one (show Kd.M (Kd.int .i64) _ _ _ 4 [.int .i64 4] from rfl) (Reps.none _ _)))))); intro v211 w37 ho38 hb hg_ hnew_; clear hg_ hnew_; (first | rw [← Ny210.out] at ho38 | (simp only [Int.reduceToNat] at ho38; rw [← Ny210.out] at ho38)); have n0_ := Aside0.mk (Kd.R_below (by (with_reducible repeat (first | apply Kd.R_alloc | apply Kd.R_drewN | apply Kd.R_drew)); exact HO179.out) hb); have n1_ := Aside0.mk (Kd.R_below (by (with_reducible repeat (first | apply Kd.R_alloc | apply Kd.R_drewN | apply Kd.R_drew)); exact HO182.out) hb); have n2_ := Aside0.mk (Kd.R_elder' (by (with_reducible repeat (first | apply Kd.R_alloc | apply Kd.R_drewN | apply Kd.R_drew)); exact HO185.out) (Kd.R_base ho38) hb); have n3_ := Aside0.mk (Kd.R_below (by (with_reducible repeat (first | apply Kd.R_alloc | apply Kd.R_drewN | apply Kd.R_drew)); exact HO190.out) hb); have n4_ := Aside0.mk (Kd.R_below (by (with_reducible repeat (first | apply Kd.R_alloc | apply Kd.R_drewN | apply Kd.R_drew)); exact HO193.out) hb); have n5_ := Aside0.mk (Kd.R_elder' (by (with_reducible repeat (first | apply Kd.R_alloc | apply Kd.R_drewN | apply Kd.R_drew)); exact HO196.out) (Kd.R_base ho38) hb); have n6_ := Aside0.mk (Kd.R_below (by (with_reducible repeat (first | apply Kd.R_alloc | apply Kd.R_drewN | apply Kd.R_drew)); exact HO201.out) hb); have n7_ := Aside0.mk (Kd.R_elder' (by (with_reducible repeat (first | apply Kd.R_alloc | apply Kd.R_drewN | apply Kd.R_drew)); exact HO204.out) (Kd.R_base ho38) hb); have n8_ := Aside0.mk (Kd.S_below (by (with_reducible repeat (first | apply Kd.S_alloc | apply Kd.S_drewN | apply Kd.S_drew)); exact HO209.out) hb); have n9_ := Aside0.mk (Kd.R_lower (Kd.R_new' (Kd.R_new' (Kd.R_new' ho38 (Kd.R_lt (by (with_reducible repeat (first | apply Kd.R_alloc | apply Kd.R_drewN | apply Kd.R_drew)); exact HO185.out))) (Kd.R_lt (by (with_reducible repeat (first | apply Kd.R_alloc | apply Kd.R_drewN | apply Kd.R_drew)); exact HO196.out))) (Kd.R_lt (by (with_reducible repeat (first | apply Kd.R_alloc | apply Kd.R_drewN | apply Kd.R_drew)); exact HO204.out))) (below_size (by repeat (first | (with_reducible first | exact HB.out | apply below_alloc | apply pw_below_drewN | apply below_drew1) | exact HB.out)))); have n10_ := Aside0.mk (below_step (by repeat (first | (with_reducible first | exact HB.out | apply below_alloc | apply pw_below_drewN | apply below_drew1) | exact HB.out)) hb); clear HO179; clear HO182; clear HO185; clear HO190; clear HO193; clear HO196; clear HO201; clear HO204; clear HO209; clear HB; have HO179 := n0_; have HO182 := n1_; have HO185 := n2_; have HO190 := n3_; have HO193 := n4_; have HO196 := n5_; have HO201 := n6_; have HO204 := n7_; have HO209 := n8_; have HO212 := n9_; have HB := n10_; clear n0_ n1_ n2_ n3_ n4_ n5_ n6_ n7_ n8_ n9_ n10_; clear hb ho38; obtain ⟨Ao39, co39, eo39⟩ := Kd.R_slice HO185.out; subst eo39; obtain ⟨Ao40, co40, eo40⟩ := Kd.R_slice HO212.out; subst eo40) | (go_at_call 23; (with_reducible refine (kingpinlaw08_ints.calls k _ _ t183 _ _ y210 true _ ?side1 ?side2 ?side3 ?side4 A9.out).mono ?_); (case side1 => repeat (first | exact (Kd.R_reads' HO185.out).2.2 | (with_reducible refine Kd.C_alloc ?_ _) | (with_reducible refine Kd.C_drewN ?_ _) | (with_reducible refine Kd.C_drew ?_))); (case side2 => exact (Kd.R_reads' HO185.out).2.1); (case side3 => repeat (first | exact (Kd.R_reads' HO212.out).2.2 | (with_reducible refine Kd.C_alloc ?_ _) | (with_reducible refine Kd.C_drewN ?_ _) | (with_reducible refine Kd.C_drew ?_))); (case side4 => exact (Kd.R_reads' HO212.out).2.1); rintro e w' ⟨rfl, ⟨nd, rfl⟩⟩) | ((with_reducible refine gate_dst (N := 43) rfl ?_); (try (refine gate_guard (by rfl) ?_; dsimp only)); refine Kd.R_lit (Kd.int .i64) _ 3 ?hg (N := 43) ?hd (xs := ([2, 3, 2, 3] : List Int)) (inner := [.int .i64 2, .int .i64 3, .int .i64 2, .int .i64 3]) (ok := fun _ => True) (okp := fun _ => True) ?hr ?hp (fun _ hk => hk) trivial (Below.refl _ _) (Nat.le_refl _) (by simp) ?_; (case hd => rfl); (case hg => rfl); (case hr => first | (go_simp; done) | (go_simp; rfl)); (case hp => exact (Reps.one (show Kd.M (Kd.int .i64) _ _ _ 2 [.int .i64 2] from rfl) (Reps.one (show Kd.M (Kd.int .i64) _ _ _ 3 [.int .i64 3] from rfl) (Reps.one (show Kd.M (Kd.int .i64) _ _ _ 2 [.int .i64 2] from rfl) (Reps.one (show Kd.M (Kd.int .i64) _ _ _ 3 [.int .i64 3] from rfl) (Reps.none _ _)))))); intro v215 w41 ho42 hb hg_ hnew_; clear hg_ hnew_; (first | rw [← Ny214.out] at ho42 | (simp only [Int.reduceToNat] at ho42; rw [← Ny214.out] at ho42)); have n0_ := Aside0.mk (Kd.R_below (by (with_reducible repeat (first | apply Kd.R_alloc | apply Kd.R_drewN | apply Kd.R_drew)); exact HO179.out) hb); have n1_ := Aside0.mk (Kd.R_below (by (with_reducible repeat (first | apply Kd.R_alloc | apply Kd.R_drewN | apply Kd.R_drew)); exact HO182.out) hb); have n2_ := Aside0.mk (Kd.R_elder' (by (with_reducible repeat (first | apply Kd.R_alloc | apply Kd.R_drewN | apply Kd.R_drew)); exact HO185.out) (Kd.R_base ho42) hb); have n3_ := Aside0.mk (Kd.R_below (by (with_reducible repeat (first | apply Kd.R_alloc | apply Kd.R_drewN | apply Kd.R_drew)); exact HO190.out) hb); have n4_ := Aside0.mk (Kd.R_below (by (with_reducible repeat (first | apply Kd.R_alloc | apply Kd.R_drewN | apply Kd.R_drew)); exact HO193.out) hb); have n5_ := Aside0.mk (Kd.R_elder' (by (with_reducible repeat (first | apply Kd.R_alloc | apply Kd.R_drewN | apply Kd.R_drew)); exact HO196.out) (Kd.R_base ho42) hb); have n6_ := Aside0.mk (Kd.R_below (by (with_reducible repeat (first | apply Kd.R_alloc | apply Kd.R_drewN | apply Kd.R_drew)); exact HO201.out) hb); have n7_ := Aside0.mk (Kd.R_elder' (by (with_reducible repeat (first | apply Kd.R_alloc | apply Kd.R_drewN | apply Kd.R_drew)); exact HO204.out) (Kd.R_base ho42) hb); have n8_ := Aside0.mk (Kd.S_below (by (with_reducible repeat (first | apply Kd.S_alloc | apply Kd.S_drewN | apply Kd.S_drew)); exact HO209.out) hb); have n9_ := Aside0.mk (Kd.R_elder' (by (with_reducible repeat (first | apply Kd.R_alloc | apply Kd.R_drewN | apply Kd.R_drew)); exact HO212.out) (Kd.R_base ho42) hb); have n10_ := Aside0.mk (Kd.R_lower (Kd.R_new' (Kd.R_new' (Kd.R_new' (Kd.R_new' ho42 (Kd.R_lt (by (with_reducible repeat (first | apply Kd.R_alloc | apply Kd.R_drewN | apply Kd.R_drew)); exact HO185.out))) (Kd.R_lt (by (with_reducible repeat (first | apply Kd.R_alloc | apply Kd.R_drewN | apply Kd.R_drew)); exact HO196.out))) (Kd.R_lt (by (with_reducible repeat (first | apply Kd.R_alloc | apply Kd.R_drewN | apply Kd.R_drew)); exact HO204.out))) (Kd.R_lt (by (with_reducible repeat (first | apply Kd.R_alloc | apply Kd.R_drewN | apply Kd.R_drew)); exact HO212.out))) (below_size (by repeat (first | (with_reducible first | exact HB.out | apply below_alloc | apply pw_below_drewN | apply below_drew1) | exact HB.out)))); have n11_ := Aside0.mk (below_step (by repeat (first | (with_reducible first | exact HB.out | apply below_alloc | apply pw_below_drewN | apply below_drew1) | exact HB.out)) hb); clear HO179; clear HO182; clear HO185; clear HO190; clear HO193; clear HO196; clear HO201; clear HO204; clear HO209; clear HO212; clear HB; have HO179 := n0_; have HO182 := n1_; have HO185 := n2_; have HO190 := n3_; have HO193 := n4_; have HO196 := n5_; have HO201 := n6_; have HO204 := n7_; have HO209 := n8_; have HO212 := n9_; have HO216 := n10_; have HB := n11_; clear n0_ n1_ n2_ n3_ n4_ n5_ n6_ n7_ n8_ n9_ n10_ n11_; clear hb ho42; obtain ⟨Ao43, co43, eo43⟩ := Kd.R_slice HO196.out; subst eo43; obtain ⟨Ao44, co44, eo44⟩ := Kd.R_slice HO216.out; subst eo44) | (go_at_call 23; (with_reducible refine (kingpinlaw08_ints.calls k _ _ t194 _ _ y214 true _ ?side1 ?side2 ?side3 ?side4 A12.out).mono ?_); (case side1 => repeat (first | exact (Kd.R_reads' HO196.out).2.2 | (with_reducible refine Kd.C_alloc ?_ _) | (with_reducible refine Kd.C_drewN ?_ _) | (with_reducible refine Kd.C_drew ?_))); (case side2 => exact (Kd.R_reads' HO196.out).2.1); (case side3 => repeat (first | exact (Kd.R_reads' HO216.out).2.2 | (with_reducible refine Kd.C_alloc ?_ _) | (with_reducible refine Kd.C_drewN ?_ _) | (with_reducible refine Kd.C_drew ?_))); (case side4 => exact (Kd.R_reads' HO216.out).2.1); rintro e w' ⟨rfl, ⟨nd, rfl⟩⟩) | ((with_reducible refine gate_dst (N := 52) rfl ?_); (try (refine gate_guard (by rfl) ?_; dsimp only)); refine Kd.R_lit (Kd.int .i64) _ 3 ?hg (N := 52) ?hd (xs := ([0, 1, 3] : List Int)) (inner := [.int .i64 0, .int .i64 1, .int .i64 3]) (ok := fun _ => True) (okp := fun _ => True) ?hr ?hp (fun _ hk => hk) trivial (Below.refl _ _) (Nat.le_refl _) (by simp) ?_; (case hd => rfl); (case hg => rfl); (case hr => first | (go_simp; done) | (go_simp; rfl)); (case hp => exact (Reps.one (show Kd.M (Kd.int .i64) _ _ _ 0 [.int .i64 0] from rfl) (Reps.one (show Kd.M (Kd.int .i64) _ _ _ 1 [.int .i64 1] from rfl) (Reps.one (show Kd.M (Kd.int .i64) _ _ _ 3 [.int .i64 3] from rfl) (Reps.none _ _))))); intro v219 w45 ho46 hb hg_ hnew_; clear hg_ hnew_; (first | rw [← Ny218.out] at ho46 | (simp only [Int.reduceToNat] at ho46; rw [← Ny218.out] at ho46)); have n0_ := Aside0.mk (Kd.R_below (by (with_reducible repeat (first | apply Kd.R_alloc | apply Kd.R_drewN | apply Kd.R_drew)); exact HO179.out) hb); have n1_ := Aside0.mk (Kd.R_below (by (with_reducible repeat (first | apply Kd.R_alloc | apply Kd.R_drewN | apply Kd.R_drew)); exact HO182.out) hb); have n2_ := Aside0.mk (Kd.R_elder' (by (with_reducible repeat (first | apply Kd.R_alloc | apply Kd.R_drewN | apply Kd.R_drew)); exact HO185.out) (Kd.R_base ho46) hb); have n3_ := Aside0.mk (Kd.R_below (by (with_reducible repeat (first | apply Kd.R_alloc | apply Kd.R_drewN | apply Kd.R_drew)); exact HO190.out) hb); have n4_ := Aside0.mk (Kd.R_below (by (with_reducible repeat (first | apply Kd.R_alloc | apply Kd.R_drewN | apply Kd.R_drew)); exact HO193.out) hb); have n5_ := Aside0.mk (Kd.R_elder' (by (with_reducible repeat (first | apply Kd.R_alloc | apply Kd.R_drewN | apply Kd.R_drew)); exact HO196.out) (Kd.R_base ho46) hb); have n6_ := Aside0.mk (Kd.R_below (by (with_reducible repeat (first | apply Kd.R_alloc | apply Kd.R_drewN | apply Kd.R_drew)); exact HO201.out) hb); have n7_ := Aside0.mk (Kd.R_elder' (by (with_reducible repeat (first | apply Kd.R_alloc | apply Kd.R_drewN | apply Kd.R_drew)); exact HO204.out) (Kd.R_base ho46) hb); have n8_ := Aside0.mk (Kd.S_below (by (with_reducible repeat (first | apply Kd.S_alloc | apply Kd.S_drewN | apply Kd.S_drew)); exact HO209.out) hb); have n9_ := Aside0.mk (Kd.R_elder' (by (with_reducible repeat (first | apply Kd.R_alloc | apply Kd.R_drewN | apply Kd.R_drew)); exact HO212.out) (Kd.R_base ho46) hb); have n10_ := Aside0.mk (Kd.R_elder' (by (with_reducible repeat (first | apply Kd.R_alloc | apply Kd.R_drewN | apply Kd.R_drew)); exact HO216.out) (Kd.R_base ho46) hb); have n11_ := Aside0.mk (Kd.R_lower (Kd.R_new' (Kd.R_new' (Kd.R_new' (Kd.R_new' (Kd.R_new' ho46 (Kd.R_lt (by (with_reducible repeat (first | apply Kd.R_alloc | apply Kd.R_drewN | apply Kd.R_drew)); exact HO185.out))) (Kd.R_lt (by (with_reducible repeat (first | apply Kd.R_alloc | apply Kd.R_drewN | apply Kd.R_drew)); exact HO196.out))) (Kd.R_lt (by (with_reducible repeat (first | apply Kd.R_alloc | apply Kd.R_drewN | apply Kd.R_drew)); exact HO204.out))) (Kd.R_lt (by (with_reducible repeat (first | apply Kd.R_alloc | apply Kd.R_drewN | apply Kd.R_drew)); exact HO212.out))) (Kd.R_lt (by (with_reducible repeat (first | apply Kd.R_alloc | apply Kd.R_drewN | apply Kd.R_drew)); exact HO216.out))) (below_size (by repeat (first | (with_reducible first | exact HB.out | apply below_alloc | apply pw_below_drewN | apply below_drew1) | exact HB.out)))); have n12_ := Aside0.mk (below_step (by repeat (first | (with_reducible first | exact HB.out | apply below_alloc | apply pw_below_drewN | apply below_drew1) | exact HB.out)) hb); clear HO179; clear HO182; clear HO185; clear HO190; clear HO193; clear HO196; clear HO201; clear HO204; clear HO209; clear HO212; clear HO216; clear HB; have HO179 := n0_; have HO182 := n1_; have HO185 := n2_; have HO190 := n3_; have HO193 := n4_; have HO196 := n5_; have HO201 := n6_; have HO204 := n7_; have HO209 := n8_; have HO212 := n9_; have HO216 := n10_; have HO220 := n11_; have HB := n12_; clear n0_ n1_ n2_ n3_ n4_ n5_ n6_ n7_ n8_ n9_ n10_ n11_ n12_; clear hb ho46; obtain ⟨Ao47, co47, eo47⟩ := Kd.R_slice HO204.out; subst eo47; obtain ⟨Ao48, co48, eo48⟩ := Kd.R_slice HO220.out; subst eo48) | (go_at_call 23; (with_reducible refine (kingpinlaw08_ints.calls k _ _ t202 _ _ y218 true _ ?side1 ?side2 ?side3 ?side4 A15.out).mono ?_); (case side1 => repeat (first | exact (Kd.R_reads' HO204.out).2.2 | (with_reducible refine Kd.C_alloc ?_ _) | (with_reducible refine Kd.C_drewN ?_ _) | (with_reducible refine Kd.C_drew ?_))); (case side2 => exact (Kd.R_reads' HO204.out).2.1); (case side3 => repeat (first | exact (Kd.R_reads' HO220.out).2.2 | (with_reducible refine Kd.C_alloc ?_ _) | (with_reducible refine Kd.C_drewN ?_ _) | (with_reducible refine Kd.C_drew ?_))); (case side4 => exact (Kd.R_reads' HO220.out).2.1); rintro e w' ⟨rfl, ⟨nd, rfl⟩⟩; obtain ⟨Ao49, co49, eo49⟩ := Kd.S_slice HO209.out; subst eo49) | (go_at_call 31; (with_reducible refine (league_ProveSchedule.calls 4 _ _ t206 3 true _ ?side1 ?side2 A18.out).mono ?_); (case side1 => repeat (first | exact (Kd.S_reads' HO209.out).2.2 | (with_reducible refine Kd.C_alloc ?_ _) | (with_reducible refine Kd.C_drewN ?_ _) | (with_reducible refine Kd.C_drew ?_))); (case side2 => exact (Kd.S_reads' HO209.out).2.1); rintro e w50 ⟨rfl, hb⟩; have n0_ := Aside0.mk (Kd.R_below (by (with_reducible repeat (first | apply Kd.R_alloc | apply Kd.R_drewN | apply Kd.R_drew)); exact HO179.out) hb); have n1_ := Aside0.mk (Kd.R_below (by (with_reducible repeat (first | apply Kd.R_alloc | apply Kd.R_drewN | apply Kd.R_drew)); exact HO182.out) hb); have n2_ := Aside0.mk (Kd.R_below (by (with_reducible repeat (first | apply Kd.R_alloc | apply Kd.R_drewN | apply Kd.R_drew)); exact HO185.out) hb); have n3_ := Aside0.mk (Kd.R_below (by (with_reducible repeat (first | apply Kd.R_alloc | apply Kd.R_drewN | apply Kd.R_drew)); exact HO190.out) hb); have n4_ := Aside0.mk (Kd.R_below (by (with_reducible repeat (first | apply Kd.R_alloc | apply Kd.R_drewN | apply Kd.R_drew)); exact HO193.out) hb); have n5_ := Aside0.mk (Kd.R_below (by (with_reducible repeat (first | apply Kd.R_alloc | apply Kd.R_drewN | apply Kd.R_drew)); exact HO196.out) hb); have n6_ := Aside0.mk (Kd.R_below (by (with_reducible repeat (first | apply Kd.R_alloc | apply Kd.R_drewN | apply Kd.R_drew)); exact HO201.out) hb); have n7_ := Aside0.mk (Kd.R_below (by (with_reducible repeat (first | apply Kd.R_alloc | apply Kd.R_drewN | apply Kd.R_drew)); exact HO204.out) hb); have n8_ := Aside0.mk (Kd.S_below (by (with_reducible repeat (first | apply Kd.S_alloc | apply Kd.S_drewN | apply Kd.S_drew)); exact HO209.out) hb); have n9_ := Aside0.mk (Kd.R_below (by (with_reducible repeat (first | apply Kd.R_alloc | apply Kd.R_drewN | apply Kd.R_drew)); exact HO212.out) hb); have n10_ := Aside0.mk (Kd.R_below (by (with_reducible repeat (first | apply Kd.R_alloc | apply Kd.R_drewN | apply Kd.R_drew)); exact HO216.out) hb); have n11_ := Aside0.mk (Kd.R_below (by (with_reducible repeat (first | apply Kd.R_alloc | apply Kd.R_drewN | apply Kd.R_drew)); exact HO220.out) hb); have n12_ := Aside0.mk (below_step (by repeat (first | (with_reducible first | exact HB.out | apply below_alloc | apply pw_below_drewN | apply below_drew1) | exact HB.out)) hb); clear HO179; clear HO182; clear HO185; clear HO190; clear HO193; clear HO196; clear HO201; clear HO204; clear HO209; clear HO212; clear HO216; clear HO220; clear HB; have HO179 := n0_; have HO182 := n1_; have HO185 := n2_; have HO190 := n3_; have HO193 := n4_; have HO196 := n5_; have HO201 := n6_; have HO204 := n7_; have HO209 := n8_; have HO212 := n9_; have HO216 := n10_; have HO220 := n11_; have HB := n12_; clear n0_ n1_ n2_ n3_ n4_ n5_ n6_ n7_ n8_ n9_ n10_ n11_ n12_; (try clear hb); (try clear hb2); (try clear hk); (try clear hi)) | (go_at_call 31; (with_reducible refine (league_ProveSchedule.calls 4 _ _ t206 2 t223 _ ?side1 ?side2 A20.out).mono ?_); (case side1 => repeat (first | exact (Kd.S_reads' HO209.out).2.2 | (with_reducible refine Kd.C_alloc ?_ _) | (with_reducible refine Kd.C_drewN ?_ _) | (with_reducible refine Kd.C_drew ?_))); (case side2 => exact (Kd.S_reads' HO209.out).2.1); rintro e w51 ⟨rfl, hb⟩; have n0_ := Aside0.mk (Kd.R_below (by (with_reducible repeat (first | apply Kd.R_alloc | apply Kd.R_drewN | apply Kd.R_drew)); exact HO179.out) hb); have n1_ := Aside0.mk (Kd.R_below (by (with_reducible repeat (first | apply Kd.R_alloc | apply Kd.R_drewN | apply Kd.R_drew)); exact HO182.out) hb); have n2_ := Aside0.mk (Kd.R_below (by (with_reducible repeat (first | apply Kd.R_alloc | apply Kd.R_drewN | apply Kd.R_drew)); exact HO185.out) hb); have n3_ := Aside0.mk (Kd.R_below (by (with_reducible repeat (first | apply Kd.R_alloc | apply Kd.R_drewN | apply Kd.R_drew)); exact HO190.out) hb); have n4_ := Aside0.mk (Kd.R_below (by (with_reducible repeat (first | apply Kd.R_alloc | apply Kd.R_drewN | apply Kd.R_drew)); exact HO193.out) hb); have n5_ := Aside0.mk (Kd.R_below (by (with_reducible repeat (first | apply Kd.R_alloc | apply Kd.R_drewN | apply Kd.R_drew)); exact HO196.out) hb); have n6_ := Aside0.mk (Kd.R_below (by (with_reducible repeat (first | apply Kd.R_alloc | apply Kd.R_drewN | apply Kd.R_drew)); exact HO201.out) hb); have n7_ := Aside0.mk (Kd.R_below (by (with_reducible repeat (first | apply Kd.R_alloc | apply Kd.R_drewN | apply Kd.R_drew)); exact HO204.out) hb); have n8_ := Aside0.mk (Kd.S_below (by (with_reducible repeat (first | apply Kd.S_alloc | apply Kd.S_drewN | apply Kd.S_drew)); exact HO209.out) hb); have n9_ := Aside0.mk (Kd.R_below (by (with_reducible repeat (first | apply Kd.R_alloc | apply Kd.R_drewN | apply Kd.R_drew)); exact HO212.out) hb); have n10_ := Aside0.mk (Kd.R_below (by (with_reducible repeat (first | apply Kd.R_alloc | apply Kd.R_drewN | apply Kd.R_drew)); exact HO216.out) hb); have n11_ := Aside0.mk (Kd.R_below (by (with_reducible repeat (first | apply Kd.R_alloc | apply Kd.R_drewN | apply Kd.R_drew)); exact HO220.out) hb); have n12_ := Aside0.mk (below_step (by repeat (first | (with_reducible first | exact HB.out | apply below_alloc | apply pw_below_drewN | apply below_drew1) | exact HB.out)) hb); clear HO179; clear HO182; clear HO185; clear HO190; clear HO193; clear HO196; clear HO201; clear HO204; clear HO209; clear HO212; clear HO216; clear HO220; clear HB; have HO179 := n0_; have HO182 := n1_; have HO185 := n2_; have HO190 := n3_; have HO193 := n4_; have HO196 := n5_; have HO201 := n6_; have HO204 := n7_; have HO209 := n8_; have HO212 := n9_; have HO216 := n10_; have HO220 := n11_; have HB := n12_; clear n0_ n1_ n2_ n3_ n4_ n5_ n6_ n7_ n8_ n9_ n10_ n11_ n12_; (try clear hb); (try clear hb2); (try clear hk); (try clear hi)))
         go_ret
         exact ⟨by first | rfl | (simp [errW_none, errW_some] <;> rfl) | (simp [*, errW_none, errW_some] <;> rfl), by repeat (first | (with_reducible first | exact HB.out | apply below_alloc | apply pw_below_drewN | apply below_drew1) | exact HB.out)⟩
        ·
         rw [if_neg c19] at H
         exact absurd (H.trans (congrArg some hr)) (by simp)
       ·
        rw [if_neg c17] at H
        exact absurd (H.trans (congrArg some hr)) (by simp)
      ·
       rw [if_neg c16] at H
       exact absurd (H.trans (congrArg some hr)) (by simp)
     ·
      rw [if_neg c14] at H
      exact absurd (H.trans (congrArg some hr)) (by simp)
    ·
     rw [if_neg c13] at H
     exact absurd (H.trans (congrArg some hr)) (by simp)
   ·
    rw [if_neg c11] at H
    exact absurd (H.trans (congrArg some hr)) (by simp)
  ·
   rw [if_neg c10] at H
   exact absurd (H.trans (congrArg some hr)) (by simp)
 ·
  rw [if_neg c8] at H
  exact absurd (H.trans (congrArg some hr)) (by simp)
set_option maxRecDepth 100000 in
theorem awake_40 : awakeF 40 = some true := by kernel_rfl
def kingpinlaw08_awake.f : Option Bool := some true
theorem kingpinlaw08_awake.calls (r : Bool) (w : World) (h : kingpinlaw08_awake.f = some r) : Calls Try.prog 16 #[] w fun e w' => e = .returned (.bool r) ∧ Below w.heap.size w w' := by
 obtain rfl := Option.some.inj h
 exact awake_calls 40 true w rfl awake_40
end Go.Proofs.Ytmnamkcjldaoeaa.PAll
namespace Go.Proofs.Ytmnamkcjldaoeaa.PAll
open Go.RowKit Go.Proofs.YtmnamkcjldaoeaaW.PrintWords Go.Proofs.YtmnamkcjldaoeaaW.PrintLast Go.Proofs.YtmnamkcjldaoeaaW.PrintMore
set_option linter.unusedVariables false
set_option linter.unusedSimpArgs false
theorem wrapN (n : Nat) (h : n < 4611686018427387904) : wrap64 ((n : Int) + 1) = ((n + 1 : Nat) : Int) := by
 rw [IntWalk.wrap64_in _ ⟨by omega, by omega⟩]
 omega
theorem dropI (l : List Int) (i : Nat) (h : i < l.length) : l.drop i = rd l (i : Int) :: l.drop (i + 1) := by
 rw [List.drop_eq_getElem_cons h]
 congr 1
 unfold rd
 rw [Int.toNat_natCast, List.getD_eq_getElem?_getD, List.getElem?_eq_getElem h, Option.getD_some]
theorem League_ev (a : Int) (l : List S70) (hl : l.length ≤ 1000) : Ev (fun k => kingpinlaw08_League.f k a l) (a, l.map toG) := by
 have main : ∀ (d i : Nat) (acc : List S85), l.length - i = d → i ≤ l.length → acc.length = i → Ev (fun k => kingpinlaw08_League.l0 k (i : Int) a l a acc) (a, acc ++ (l.drop i).map toG) := by
  intro d
  induction d with
  | zero =>
   intro i acc hd hi ha
   obtain rfl : i = l.length := by omega
   refine Ev.step (f := fun _ => some (a, acc)) (fun k => ?_) ?_
   ·
    simp only [kingpinlaw08_League.l0]
    rw [if_neg (by omega)]
   ·
    simpa using Ev.now (a, acc)
  | succ d ih =>
   intro i acc hd hi ha
   refine Ev.step (f := fun k => kingpinlaw08_League.l0 k ((i + 1 : Nat) : Int) a l a (acc ++ [toG (rd_T70 l (i : Int))])) (fun k => ?_) ?_
   ·
    simp only [kingpinlaw08_League.l0]
    rw [if_pos (by omega), if_pos (by omega), if_pos (by omega), wrapN i (by omega)]
    rfl
   ·
    have := ih (i + 1) (acc ++ [toG (rd_T70 l (i : Int))]) (by omega) (by omega) (by simp [ha])
    rw [drop70 l i (by omega), List.map_cons]
    simpa using this
 have := main l.length 0 [] rfl (Nat.zero_le _) rfl
 rw [List.nil_append, List.drop_zero] at this
 exact this
theorem listed_ev (l : List Int) (m : Int) (hl : l.length ≤ 1000000) : Ev (fun k => kingpinlaw08_listed.f k l m) (l.all fun x => decide (1 ≤ x) && decide (x ≤ m)) := by
 have main : ∀ (d i : Nat), l.length - i = d → i ≤ l.length → Ev (fun k => kingpinlaw08_listed.l0 k l m (i : Int)) ((l.drop i).all fun x => decide (1 ≤ x) && decide (x ≤ m)) := by
  intro d
  induction d with
  | zero =>
   intro i hd hi
   obtain rfl : i = l.length := by omega
   refine Ev.step (f := fun _ => some true) (fun k => ?_) ?_
   ·
    simp only [kingpinlaw08_listed.l0]
    rw [if_neg (by omega)]
   ·
    simpa using Ev.now true
  | succ d ih =>
   intro i hd hi
   have ih1 := ih (i + 1) (by omega) (by omega)
   rw [dropI l i (by omega), List.all_cons]
   obtain ⟨x, hx⟩ : ∃ x, rd l (i : Int) = x := ⟨_, rfl⟩
   rw [hx]
   have hbody : ∀ k, kingpinlaw08_listed.l0 (k + 1) l m (i : Int) = if 1 ≤ x ∧ x ≤ m then kingpinlaw08_listed.l0 k l m ((i + 1 : Nat) : Int) else some false := by
    intro k
    simp only [kingpinlaw08_listed.l0]
    rw [if_pos (by omega), if_pos (by omega), wrapN i (by omega), hx]
    by_cases c1 : x < 1
    ·
     rw [if_pos c1, if_neg (by omega)]
    ·
     by_cases c2 : x > m
     ·
      rw [if_neg c1, if_pos c2, if_neg (by omega)]
     ·
      rw [if_neg c1, if_neg c2, if_pos (by omega)]
   refine Ev.step hbody ?_
   by_cases hg : 1 ≤ x ∧ x ≤ m
   ·
    simp only [hg, and_self, if_true, decide_true, Bool.true_and]
    exact ih1
   ·
    have : (decide (1 ≤ x) && decide (x ≤ m)) = false := by simpa using hg
    simp only [hg, if_false, this, Bool.false_and]
    exact Ev.now _
 have := main l.length 0 rfl (Nat.zero_le _)
 exact this
theorem Gives_eq (x : S70) : kingpinref08_Gives.f x.f0 x.f1 x.f2 x.f3 x.f4 = some (givesF (toG x)) := by
 unfold kingpinref08_Gives.f givesF toG
 split
 ·
  rfl
 ·
  split
  ·
   rfl
  ·
   split <;> rfl
theorem gives_range (g : S85) : (givesF g).1 ∈ ([0, 1, 2] : List Int) ∧ (givesF g).2 ∈ ([0, 1, 2] : List Int) := by
 unfold givesF
 split
 ·
  simp
 ·
  split
  ·
   simp
  ·
   split <;> simp
end Go.Proofs.Ytmnamkcjldaoeaa.PAll
namespace Go.Proofs.Ytmnamkcjldaoeaa.PAll
open Go.RowKit Go.Proofs.YtmnamkcjldaoeaaW.PrintWords Go.Proofs.YtmnamkcjldaoeaaW.PrintLast Go.Proofs.YtmnamkcjldaoeaaW.PrintMore
set_option linter.unusedVariables false
set_option linter.unusedSimpArgs false
structure Give where
 a : Int
 x : Int
 b : Int
 y : Int
def Give.ok (m : Nat) (t : Give) : Prop := 0 ≤ t.a ∧ t.a < m ∧ 0 ≤ t.b ∧ t.b < m ∧ 0 ≤ t.x ∧ t.x ≤ 2 ∧ 0 ≤ t.y ∧ t.y ≤ 2
def step2 (s : List Int) (t : Give) : List Int := addAt (addAt s t.a t.x) t.b t.y
def Give.to (t : Give) (i : Nat) : Int := (if t.a = i then t.x else 0) + (if t.b = i then t.y else 0)
def sumTo (T : List Give) (i : Nat) : Int := (T.map fun t => t.to i).sum
theorem step2_len (s : List Int) (t : Give) : (step2 s t).length = s.length := by simp [step2, addAt]
theorem fold2_len (T : List Give) (s : List Int) : (T.foldl step2 s).length = s.length := by
 induction T generalizing s with
 | nil => rfl
 | cons t T ih => rw [List.foldl_cons, ih, step2_len]
theorem addAt_get (s : List Int) (j v : Int) (i : Nat) (h0 : 0 ≤ j) (hj : j < s.length) (B : Int) (hs : 0 ≤ s.getD j.toNat 0 ∧ s.getD j.toNat 0 ≤ B) (hB : B ≤ 1000000000) (hv : 0 ≤ v ∧ v ≤ 2) :
  (addAt s j v).getD i 0 = s.getD i 0 + (if j = i then v else 0) := by
 unfold addAt
 by_cases hij : j = i
 ·
  have : j.toNat = i := by omega
  subst this
  rw [if_pos hij, List.getD_eq_getElem?_getD, List.getElem?_set_self (by omega), Option.getD_some, IntWalk.wrap64_in _ ⟨by omega, by omega⟩]
 ·
  rw [if_neg hij, List.getD_eq_getElem?_getD, List.getElem?_set_ne (by omega), ← List.getD_eq_getElem?_getD, Int.add_zero]
theorem Give.to_range {m : Nat} {t : Give} (h : t.ok m) (i : Nat) : 0 ≤ t.to i ∧ t.to i ≤ 4 := by
 obtain ⟨_, _, _, _, h5, h6, h7, h8⟩ := h
 unfold Give.to
 split <;> split <;> omega
theorem fold2_get : ∀ (T : List Give) (s : List Int) (B : Int), (∀ t ∈ T, t.ok s.length) → (∀ i, 0 ≤ s.getD i 0 ∧ s.getD i 0 ≤ B) → B + 4 * T.length ≤ 1000000 → ∀ i : Nat, (T.foldl step2 s).getD i 0 = s.getD i 0 + sumTo T i
 | [], s, B, _, _, _, i => by simp [sumTo]
 | t :: T, s, B, hT, hs, hB, i => by
  rw [List.length_cons] at hB
  have ht := hT t List.mem_cons_self
  obtain ⟨o1, o2, o3, o4, o5, o6, o7, o8⟩ := ht
  have e1 : ∀ i : Nat, (addAt s t.a t.x).getD i 0 = s.getD i 0 + (if t.a = i then t.x else 0) := fun i => addAt_get s t.a t.x i o1 o2 B (hs _) (by omega) ⟨o5, o6⟩
  have hl1 : (addAt s t.a t.x).length = s.length := by simp [addAt]
  have e2 : ∀ i : Nat, (step2 s t).getD i 0 = s.getD i 0 + t.to i := by
   intro i
   have hb := e1 t.b.toNat
   have hs2 := hs t.b.toNat
   unfold step2 Give.to
   rw [addAt_get (addAt s t.a t.x) t.b t.y i o3 (by rw [hl1]; exact o4) (B + 2) (by rw [hb]; split <;> omega) (by omega) ⟨o7, o8⟩, e1 i]
   omega
  rw [List.foldl_cons, fold2_get T (step2 s t) (B + 4) (fun u hu => by rw [step2_len]; exact hT u (List.mem_cons_of_mem _ hu)) (fun i => by
   rw [e2]
   have := hs i
   have := Give.to_range (hT t List.mem_cons_self) i
   omega) (by push_cast at hB; omega), e2]
  simp only [sumTo, List.map_cons, List.sum_cons]
  omega
def gGive (g : S85) : Give := ⟨g.f0, (givesF g).1, g.f1, (givesF g).2⟩
def oGive (g : S85) (o : Int) : Give := ⟨g.f0, 3 - o, g.f1, o - 1⟩
def playT : List S85 → List Int → List Give
 | [], _ => []
 | g :: l, os => if g.f4 = true then oGive g (os.headD 0) :: playT l os.tail else gGive g :: playT l os
theorem openG_cons (g : S85) (l : List S85) : openG (g :: l) = if g.f4 = true then g :: openG l else openG l := by
 unfold openG
 rw [List.filter_cons]
theorem gives_open {g : S85} (h : g.f4 = true) : givesF g = (0, 0) := by
 unfold givesF
 rw [if_pos h]
theorem playT_sum (i : Nat) : ∀ (l : List S85) (os : List Int), os.length = (openG l).length → sumTo (playT l os) i = sumTo (l.map gGive) i + sumTo (((openG l).zip os).map fun p => oGive p.1 p.2) i
 | [], os, _ => by simp [playT, sumTo, openG]
 | g :: l, os, h => by
  rw [openG_cons] at h ⊢
  unfold playT
  by_cases hg : g.f4 = true
  ·
   rw [if_pos hg] at h ⊢
   rw [if_pos hg]
   match os, h with
   | o :: os, h =>
    have ih := playT_sum i l os (by simpa using h)
    have hz : (gGive g).to i = 0 := by
     unfold gGive Give.to
     rw [gives_open hg]
     simp
    simp only [sumTo, List.map_cons, List.sum_cons, List.zip_cons_cons, List.headD_cons, List.tail_cons] at ih ⊢
    omega
  ·
   rw [if_neg hg] at h ⊢
   rw [if_neg hg]
   have ih := playT_sum i l os h
   simp only [sumTo, List.map_cons, List.sum_cons] at ih ⊢
   omega
theorem gGive_ok {n : Int} {m : Nat} {g : S85} (h : gameB n g = true) (hm : n ≤ m) : (gGive g).ok m := by
 obtain ⟨_, _, ⟨h1, h2⟩, ⟨h3, h4⟩, _, _⟩ := (gameB_iff n g).1 h
 have := gives_range g
 simp only [List.mem_cons, List.not_mem_nil, or_false] at this
 unfold Give.ok gGive
 refine ⟨h1, by show g.f0 < m; omega, h3, by show g.f1 < m; omega, ?_, ?_, ?_, ?_⟩
 ·
  show 0 ≤ (givesF g).1; omega
 ·
  show (givesF g).1 ≤ 2; omega
 ·
  show 0 ≤ (givesF g).2; omega
 ·
  show (givesF g).2 ≤ 2; omega
theorem oGive_ok {n : Int} {m : Nat} {g : S85} (h : gameB n g = true) (hm : n ≤ m) {o : Int} (ho : 1 ≤ o ∧ o ≤ 3) : (oGive g o).ok m := by
 obtain ⟨_, _, ⟨h1, h2⟩, ⟨h3, h4⟩, _, _⟩ := (gameB_iff n g).1 h
 unfold Give.ok oGive
 refine ⟨h1, by show g.f0 < m; omega, h3, by show g.f1 < m; omega, ?_, ?_, ?_, ?_⟩
 ·
  show 0 ≤ 3 - o; omega
 ·
  show 3 - o ≤ 2; omega
 ·
  show 0 ≤ o - 1; omega
 ·
  show o - 1 ≤ 2; omega
theorem playT_ok {n : Int} {m : Nat} (hm : n ≤ m) : ∀ (l : List S85) (os : List Int), (∀ g ∈ l, gameB n g = true) → os.length = (openG l).length → (∀ o ∈ os, 1 ≤ o ∧ o ≤ 3) → (∀ t ∈ playT l os, t.ok m) ∧ (playT l os).length = l.length
 | [], os, _, _, _ => by simp [playT]
 | g :: l, os, hg, h, ho => by
  rw [openG_cons] at h
  unfold playT
  by_cases hf : g.f4 = true
  ·
   rw [if_pos hf] at h ⊢
   match os, h, ho with
   | o :: os, h, ho =>
    obtain ⟨i1, i2⟩ := playT_ok hm l os (fun x hx => hg x (List.mem_cons_of_mem _ hx)) (by simpa using h) (fun x hx => ho x (List.mem_cons_of_mem _ hx))
    refine ⟨?_, by simp [i2]⟩
    intro t ht
    rcases List.mem_cons.1 ht with rfl | ht
    ·
     exact oGive_ok (hg g List.mem_cons_self) hm (ho o List.mem_cons_self)
    ·
     exact i1 t ht
  ·
   rw [if_neg hf] at h ⊢
   obtain ⟨i1, i2⟩ := playT_ok hm l os (fun x hx => hg x (List.mem_cons_of_mem _ hx)) h ho
   refine ⟨?_, by simp [i2]⟩
   intro t ht
   rcases List.mem_cons.1 ht with rfl | ht
   ·
    exact gGive_ok (hg g List.mem_cons_self) hm
   ·
    exact i1 t ht
theorem rep_get (n i : Nat) : (List.replicate n (0 : Int)).getD i 0 = 0 := by
 rw [List.getD_eq_getElem?_getD]
 by_cases h : i < n
 ·
  simp [List.getElem?_replicate, h]
 ·
  simp [List.getElem?_replicate, h]
theorem Open_ev (a : Int) (l : List S70) (hl : l.length ≤ 1000) : Ev (fun k => kingpinref08_Open.f k a l) ((openG (l.map toG)).length : Int) := by
 have main : ∀ (d i c : Nat), l.length - i = d → i ≤ l.length → c ≤ i → Ev (fun k => kingpinref08_Open.l0 k (c : Int) (i : Int) a l) ((c + (openG ((l.drop i).map toG)).length : Nat) : Int) := by
  intro d
  induction d with
  | zero =>
   intro i c hd hi hc
   obtain rfl : i = l.length := by omega
   rw [List.drop_length]
   refine Ev.step (f := fun _ => some ((c : Nat) : Int)) (fun k => ?_) ?_
   ·
    simp only [kingpinref08_Open.l0]
    rw [if_neg (by omega)]
   ·
    simpa [openG] using Ev.now (c : Int)
  | succ d ih =>
   intro i c hd hi hc
   rw [drop70 l i (by omega), List.map_cons, openG_cons]
   obtain ⟨x, hx⟩ : ∃ x, rd_T70 l (i : Int) = x := ⟨_, rfl⟩
   rw [hx]
   by_cases hf : x.f4 = true
   ·
    rw [if_pos (show (toG x).f4 = true from hf), List.length_cons]
    have := ih (i + 1) (c + 1) (by omega) (by omega) (by omega)
    rw [show c + ((openG ((l.drop (i + 1)).map toG)).length + 1) = c + 1 + (openG ((l.drop (i + 1)).map toG)).length from by omega]
    refine Ev.step (fun k => ?_) this
    simp only [kingpinref08_Open.l0]
    rw [if_pos (by omega), if_pos (by omega), hx, if_pos hf, wrapN c (by omega), wrapN i (by omega)]
   ·
    rw [if_neg (show ¬ (toG x).f4 = true from hf)]
    refine Ev.step (fun k => ?_) (ih (i + 1) c (by omega) (by omega) (by omega))
    simp only [kingpinref08_Open.l0]
    rw [if_pos (by omega), if_pos (by omega), hx, if_neg hf, wrapN i (by omega)]
 have := main l.length 0 0 rfl (Nat.zero_le _) (Nat.zero_le _)
 rw [Nat.zero_add, List.drop_zero] at this
 exact this
theorem RAfter_ev (n : Int) (l : List S70) (os : List Int) (hc : checkF n (l.map toG) = 0) (ho : os.length = (openG (l.map toG)).length) (hos : ∀ o ∈ os, 1 ≤ o ∧ o ≤ 3) :
  Ev (fun k => kingpinref08_After.f k n l os) ((playT (l.map toG) os).foldl step2 (List.replicate n.toNat 0)) := by
 obtain ⟨h20, n2, n6, hok⟩ := check_ok hc
 rw [List.length_map] at h20
 have hol : (openG (l.map toG)).length ≤ l.length := by
  have := List.length_filter_le (fun g : S85 => g.f4) (l.map toG)
  rw [List.length_map] at this
  exact this
 have main : ∀ (d i j : Nat) (s : List Int), l.length - i = d → i ≤ l.length → j ≤ os.length → s.length = n.toNat → (os.drop j).length = (openG ((l.drop i).map toG)).length →
   Ev (fun k => kingpinref08_After.l0 k os s (j : Int) (i : Int) n l) ((playT ((l.drop i).map toG) (os.drop j)).foldl step2 s) := by
  intro d
  induction d with
  | zero =>
   intro i j s hd hi hj hs hlen
   obtain rfl : i = l.length := by omega
   rw [List.drop_length]
   refine Ev.step (f := fun _ => some s) (fun k => ?_) ?_
   ·
    simp only [kingpinref08_After.l0]
    rw [if_neg (by omega)]
   ·
    exact Ev.now s
  | succ d ih =>
   intro i j s hd hi hj hs hlen
   have hxm : toG (rd_T70 l (i : Int)) ∈ l.map toG := List.mem_map.2 ⟨_, List.mem_of_mem_drop (i := i) (by rw [drop70 l i (by omega)]; exact List.mem_cons_self), rfl⟩
   have hgx := (gameB_iff n _).1 (hok _ hxm)
   rw [drop70 l i (by omega), List.map_cons, openG_cons] at hlen
   rw [drop70 l i (by omega), List.map_cons]
   unfold playT
   obtain ⟨x, hx⟩ : ∃ x, rd_T70 l (i : Int) = x := ⟨_, rfl⟩
   rw [hx] at hlen hgx ⊢
   obtain ⟨_, _, ⟨g1, g2⟩, ⟨g3, g4⟩, _, _⟩ := hgx
   have g1 : 0 ≤ x.f0 := g1
   have g2 : x.f0 < n := g2
   have g3 : 0 ≤ x.f1 := g3
   have g4 : x.f1 < n := g4
   by_cases hf : x.f4 = true
   ·
    rw [if_pos (show (toG x).f4 = true from hf)] at hlen ⊢
    have hj2 : j < os.length := by
     rw [List.length_drop, List.length_cons] at hlen
     omega
    have hdj := dropI os j hj2
    have hom : 1 ≤ rd os (j : Int) ∧ rd os (j : Int) ≤ 3 := hos _ (List.mem_of_mem_drop (i := j) (by rw [hdj]; exact List.mem_cons_self))
    have hd2 : (os.drop (j + 1)).length = (openG ((l.drop (i + 1)).map toG)).length := by
     rw [hdj, List.length_cons, List.length_cons] at hlen
     omega
    have := ih (i + 1) (j + 1) (step2 s (oGive (toG x) (rd os (j : Int)))) (by omega) (by omega) (by omega) (by rw [step2_len]; exact hs) hd2
    rw [hdj, List.headD_cons, List.tail_cons, List.foldl_cons]
    refine Ev.step (fun k => ?_) this
    simp only [kingpinref08_After.l0]
    rw [if_pos (by omega), if_pos (by omega), hx, Gives_eq, Option.bind_some, if_pos hf, if_pos (by omega), if_pos (by omega), if_pos g1, if_pos (by omega), Option.bind_some, if_pos g3, if_pos (by omega), wrapN j (by omega), wrapN i (by omega)]
    rw [IntWalk.wrap64_in (rd os (j : Int)) ⟨by omega, by omega⟩, IntWalk.wrap64_in (3 - rd os (j : Int)) ⟨by omega, by omega⟩, IntWalk.wrap64_in (rd os (j : Int) - 1) ⟨by omega, by omega⟩]
    rfl
   ·
    rw [if_neg (show ¬ (toG x).f4 = true from hf)] at hlen ⊢
    have := ih (i + 1) j (step2 s (gGive (toG x))) (by omega) (by omega) hj (by rw [step2_len]; exact hs) hlen
    rw [List.foldl_cons]
    refine Ev.step (fun k => ?_) this
    simp only [kingpinref08_After.l0]
    rw [if_pos (by omega), if_pos (by omega), hx, Gives_eq, Option.bind_some, if_neg hf, if_pos g1, if_pos (by omega), Option.bind_some, if_pos g3, if_pos (by omega), wrapN i (by omega)]
    rfl
 have := main l.length 0 0 (List.replicate n.toNat 0) rfl (Nat.zero_le _) (Nat.zero_le _) List.length_replicate (by rw [List.drop_zero, List.drop_zero]; exact ho)
 unfold kingpinref08_After.f
 simp only [if_pos (show (0 : Int) ≤ n by omega), if_pos (show n.toNat ≤ 35184372088832 by omega)]
 rw [List.drop_zero, List.drop_zero] at this
 exact this
end Go.Proofs.Ytmnamkcjldaoeaa.PAll
namespace Go.Proofs.Ytmnamkcjldaoeaa.PAll
open Go.RowKit Go.Proofs.YtmnamkcjldaoeaaW.PrintWords Go.Proofs.YtmnamkcjldaoeaaW.PrintLast Go.Proofs.YtmnamkcjldaoeaaW.PrintMore
set_option linter.unusedVariables false
set_option linter.unusedSimpArgs false
set_option linter.unusedSectionVars false
theorem sums_get {n : Int} {l : List S85} (hc : checkF n l = 0) (i : Nat) : (sumsF l).getD i 0 = sumTo (l.map gGive) i := by
 obtain ⟨h20, n2, n6, hok⟩ := check_ok hc
 have e1 : sumsF l = (l.map gGive).foldl step2 (List.replicate 6 0) := by
  unfold sumsF
  rw [List.foldl_map]
  rfl
 rw [e1, fold2_get _ (List.replicate 6 0) 0 (fun t ht => by
  obtain ⟨g, hg, rfl⟩ := List.mem_map.1 ht
  rw [List.length_replicate]
  exact gGive_ok (hok g hg) (by omega)) (fun i => by rw [rep_get]; omega) (by rw [List.length_map]; omega), rep_get]
 omega
def okI (n t : Int) (xs : List Int) (i : Nat) : Bool := (decide (0 ≤ xs.getD i 0) && decide (xs.getD i 0 < n)) && (!decide (xs.getD i 0 = t) && (decide (i = 0) || decide (xs.getD (i - 1) 0 < xs.getD i 0)))
def okFrom (n t : Int) (xs : List Int) : Nat → Nat → Bool
 | _, 0 => true
 | i, d + 1 => okI n t xs i && okFrom n t xs (i + 1) d
section
variable (n : Int) (l : List S70) (hc : checkF n (l.map toG) = 0)
include hc
end
end Go.Proofs.Ytmnamkcjldaoeaa.PAll
namespace Go.Proofs.Ytmnamkcjldaoeaa.PAll
open Go.RowKit Go.Proofs.YtmnamkcjldaoeaaW.PrintWords Go.Proofs.YtmnamkcjldaoeaaW.PrintLast Go.Proofs.YtmnamkcjldaoeaaW.PrintMore
set_option linter.unusedVariables false
set_option linter.unusedSimpArgs false
set_option linter.unusedSectionVars false
theorem sumTo_range {m : Nat} : ∀ (T : List Give) (i : Nat), (∀ t ∈ T, t.ok m) → 0 ≤ sumTo T i ∧ sumTo T i ≤ 4 * T.length ∧ (m ≤ i → sumTo T i = 0)
 | [], i, _ => by simp [sumTo]
 | t :: T, i, h => by
  have h1 := sumTo_range T i (fun u hu => h u (List.mem_cons_of_mem _ hu))
  have ho := h t List.mem_cons_self
  have h2 := Give.to_range ho i
  have h3 : m ≤ i → t.to i = 0 := by
   obtain ⟨o1, o2, o3, o4, _⟩ := ho
   intro hm
   unfold Give.to
   rw [if_neg (by omega), if_neg (by omega)]
   rfl
  simp only [sumTo, List.map_cons, List.sum_cons, List.length_cons] at h1 ⊢
  refine ⟨by omega, by push_cast; omega, fun hm => ?_⟩
  rw [h3 hm, h1.2.2 hm]
  rfl
def openWith (op : List S85) (team : Int) : Int := (op.map fun g => if g.f0 = team ∨ g.f1 = team then (2 : Int) else 0).sum
theorem openWith_range (team : Int) : ∀ op : List S85, 0 ≤ openWith op team ∧ openWith op team ≤ 2 * op.length
 | [] => by simp [openWith]
 | g :: op => by
  have := openWith_range team op
  simp only [openWith, List.map_cons, List.sum_cons, List.length_cons] at this ⊢
  push_cast
  split <;> omega
theorem fold_reach (team : Int) : ∀ (op : List S85) (s : Int), 0 ≤ s → s + 2 * op.length ≤ 1000000 → op.foldl (reachStep team) s = s + openWith op team
 | [], s, _, _ => by simp [openWith]
 | g :: op, s, h0, h1 => by
  rw [List.length_cons] at h1
  push_cast at h1
  have hw : openWith (g :: op) team = (if g.f0 = team ∨ g.f1 = team then 2 else 0) + openWith op team := by
   unfold openWith
   rw [List.map_cons, List.sum_cons]
  have hs : reachStep team s g = s + (if g.f0 = team ∨ g.f1 = team then 2 else 0) := by
   unfold reachStep
   split
   ·
    rw [IntWalk.wrap64_in _ ⟨by omega, by omega⟩]
   ·
    omega
  rw [List.foldl_cons, hs, hw, fold_reach team op _ (by split <;> omega) (by split <;> omega)]
  omega
section
variable {n : Int} {l : List S85} (hc : checkF n l = 0)
include hc
theorem open_len : (openG l).length ≤ 20 := Nat.le_trans (List.length_filter_le _ _) (check_ok hc).1
theorem open_ok {g : S85} (hg : g ∈ openG l) : (0 ≤ g.f0 ∧ g.f0 < n) ∧ (0 ≤ g.f1 ∧ g.f1 < n) ∧ g.f0 ≠ g.f1 := by
 have := (gameB_iff n g).1 ((check_ok hc).2.2.2 g (List.mem_filter.1 hg).1)
 exact ⟨this.2.2.1, this.2.2.2.1, this.2.2.2.2.1⟩
theorem gives_all : ∀ t ∈ l.map gGive, t.ok n.toNat := by
 obtain ⟨h20, n2, n6, hok⟩ := check_ok hc
 intro t ht
 obtain ⟨g, hg, rfl⟩ := List.mem_map.1 ht
 exact gGive_ok (hok g hg) (by omega)
theorem sums_rng (i : Nat) : 0 ≤ (sumsF l).getD i 0 ∧ (sumsF l).getD i 0 ≤ 80 := by
 have h1 := sumTo_range (l.map gGive) i (gives_all hc)
 have := (check_ok hc).1
 rw [List.length_map] at h1
 rw [sums_get hc]
 omega
theorem sums_zero (i : Nat) (h : n ≤ i) : (sumsF l).getD i 0 = 0 := by
 rw [sums_get hc]
 exact (sumTo_range (l.map gGive) i (gives_all hc)).2.2 (by omega)
theorem reach_eq (team : Int) : reachF l team = (sumsF l).getD team.toNat 0 + openWith (openG l) team := by
 have h1 := sums_rng hc team.toNat
 have h2 := open_len hc
 unfold reachF
 exact fold_reach team (openG l) _ h1.1 (by omega)
theorem reach_rng (team : Int) : 0 ≤ reachF l team ∧ reachF l team ≤ 120 := by
 have h1 := sums_rng hc team.toNat
 have h2 := open_len hc
 have h3 := openWith_range team (openG l)
 rw [reach_eq hc]
 omega
end
def raceP (n : Int) (l : List S85) (team : Int) : FB := ⟨openG l, team, reachF l team, n, sumsF l⟩
theorem raceP_ok {n : Int} {l : List S85} (hc : checkF n l = 0) (team : Int) : (raceP n l team).ok := by
 refine ⟨(check_ok hc).2.2.1, open_len hc, fun i hi => ?_, fun t _ _ => ?_⟩
 ·
  have hi : i < (openG l).length := hi
  have : (openG l).getD i z85 ∈ openG l := by
   rw [List.getD_eq_getElem?_getD, List.getElem?_eq_getElem hi]
   exact List.getElem_mem hi
  exact open_ok hc this
 ·
  have := sums_rng hc t.toNat
  exact ⟨this.1, by show (sumsF l).getD t.toNat 0 ≤ 1000; omega⟩
theorem raceP_runs {n : Int} {l : List S85} (hc : checkF n l = 0) (team : Int) :
  ∃ r gv hv, runsF (openG l) team (reachF l team) (sumsF l) = some (r, gv, hv) ∧ (r = true → (raceP n l team).I gv hv ∧ ∀ u : Nat, u < 6 → (u : Int) ≠ team → hv.getD u 0 ≤ reachF l team) ∧ (r = false → (raceP n l team).Cut ∨ ∃ y ∈ sumsF l, reachF l team < y) :=
 runs_ok (raceP_ok hc team) (sumsF_length l) (reach_rng hc team).1 (fun t h _ => sums_zero hc t.toNat (by have : n ≤ t := h; omega))
def canF (n : Int) (l : List S85) (team : Int) : Bool × Int :=
 if askF n l team = 0 then (((runsF (openG l) team (reachF l team) (sumsF l)).getD (false, [], [])).1, 0) else (false, askF n l team)
def showsF (n : Int) (l : List S85) (team : Int) : List Int × Int :=
 if askF n l team = 0 then
  (if ((runsF (openG l) team (reachF l team) (sumsF l)).getD (false, [], [])).1 = true then (((runsF (openG l) team (reachF l team) (sumsF l)).getD (false, [], [])).2.1.map fun x => 3 - x, 0) else ([], 9))
 else ([], askF n l team)
def league_CanFirst.f (a0_0 : Int) (l0_1 : List (S85)) (a1 : Int) : Option (Bool × Int) := some (canF a0_0 l0_1 a1)
def league_Shows.f (a0_0 : Int) (l0_1 : List (S85)) (a1 : Int) : Option (List Int × Int) := some (showsF a0_0 l0_1 a1)
end Go.Proofs.Ytmnamkcjldaoeaa.PAll
namespace Go.Proofs.Ytmnamkcjldaoeaa.PAll
open Go.RowKit Go.Proofs.YtmnamkcjldaoeaaW.PrintWords Go.Proofs.YtmnamkcjldaoeaaW.PrintLast Go.Proofs.YtmnamkcjldaoeaaW.PrintMore
set_option linter.unusedVariables false
set_option linter.unusedSimpArgs false
set_option linter.unusedSectionVars false
theorem list_sum (ys : List Int) : ∀ (L : List Int) (s : Int), 0 ≤ s → (∀ t ∈ L, 0 ≤ ys.getD t.toNat 0 ∧ ys.getD t.toNat 0 ≤ 80) → s + 80 * L.length ≤ 1000000 →
  L.foldl (fun n t => wrap64 (n + ys.getD t.toNat 0)) s = s + (L.map fun t => ys.getD t.toNat 0).sum ∧ 0 ≤ (L.map fun t => ys.getD t.toNat 0).sum ∧ (L.map fun t => ys.getD t.toNat 0).sum ≤ 80 * L.length
 | [], s, _, _, _ => by simp
 | t :: L, s, h0, h, hs => by
  rw [List.length_cons] at hs
  push_cast at hs
  have ht := h t List.mem_cons_self
  obtain ⟨h1, h2, h3⟩ := list_sum ys L (s + ys.getD t.toNat 0) (by omega) (fun u hu => h u (List.mem_cons_of_mem _ hu)) (by omega)
  rw [List.foldl_cons, IntWalk.wrap64_in _ ⟨by omega, by omega⟩, h1, List.map_cons, List.sum_cons, List.length_cons]
  push_cast
  omega
theorem both_sum (L : List Int) : ∀ (op : List S85) (s : Int), 0 ≤ s → s + 2 * op.length ≤ 1000000 → op.foldl (bothStep L) s = s + bothS L op ∧ 0 ≤ bothS L op ∧ bothS L op ≤ 2 * op.length
 | [], s, _, _ => by simp [bothS]
 | g :: op, s, h0, hs => by
  rw [List.length_cons] at hs
  push_cast at hs
  have e1 : bothStep L s g = s + (if g.f0 ∈ L ∧ g.f1 ∈ L then 2 else 0) := by
   unfold bothStep
   simp only [Bool.and_eq_true, List.contains_iff_mem]
   split
   ·
    rw [IntWalk.wrap64_in _ ⟨by omega, by omega⟩]
   ·
    omega
  have e2 : bothS L (g :: op) = (if g.f0 ∈ L ∧ g.f1 ∈ L then 2 else 0) + bothS L op := by
   unfold bothS
   rw [List.map_cons, List.sum_cons]
  have e3 : (0 : Int) ≤ (if g.f0 ∈ L ∧ g.f1 ∈ L then 2 else 0) ∧ (if g.f0 ∈ L ∧ g.f1 ∈ L then 2 else 0) ≤ (2 : Int) := by split <;> omega
  obtain ⟨h1, h2, h3⟩ := both_sum L op (s + (if g.f0 ∈ L ∧ g.f1 ∈ L then 2 else 0)) (by omega) (by omega)
  rw [List.foldl_cons, e1, e2, h1, List.length_cons]
  push_cast
  omega
section
variable {n : Int} {l : List S85} (hc : checkF n l = 0)
include hc
theorem ruled_iff (team : Int) (L : List Int) (hL : L.length ≤ 100) :
  ruledF (reachF l team) (sumsF l) (openG l) L = true ↔ L ≠ [] ∧ reachF l team * L.length < (L.map fun t => (sumsF l).getD t.toNat 0).sum + bothS L (openG l) := by
 have h1 := list_sum (sumsF l) L 0 (Int.le_refl _) (fun t _ => sums_rng hc t.toNat) (by omega)
 have ho := open_len hc
 have h2 := both_sum L (openG l) ((L.map fun t => (sumsF l).getD t.toNat 0).sum) h1.2.1 (by omega)
 have hg : groupSum (sumsF l) (openG l) L = (L.map fun t => (sumsF l).getD t.toNat 0).sum + bothS L (openG l) := by
  have e : groupSum (sumsF l) (openG l) L = (openG l).foldl (bothStep L) (listSum (sumsF l) L) := rfl
  rw [e, show listSum (sumsF l) L = L.foldl (fun n t => wrap64 (n + (sumsF l).getD t.toNat 0)) 0 from rfl, h1.1, Int.zero_add, h2.1]
 have hr := reach_rng hc team
 have hm : 0 ≤ reachF l team * L.length ∧ reachF l team * L.length ≤ 12000 := by
  refine ⟨Int.mul_nonneg hr.1 (by omega), ?_⟩
  have : reachF l team * (L.length : Int) ≤ 120 * 100 := Int.mul_le_mul hr.2 (by omega) (by omega) (by decide)
  omega
 unfold ruledF
 rw [hg, IntWalk.wrap64_in _ ⟨by omega, by omega⟩, Bool.and_eq_true, decide_eq_true_eq, decide_eq_true_eq, List.length_pos_iff]
end
theorem one_sum (a x : Int) : ∀ (L : List Int), L.Nodup → (L.map fun u => if a = u then x else 0).sum = if a ∈ L then x else 0
 | [], _ => by simp
 | v :: L, h => by
  obtain ⟨h1, h2⟩ := List.nodup_cons.1 h
  rw [List.map_cons, List.sum_cons, one_sum a x L h2]
  by_cases ha : a = v
  ·
   subst ha
   simp only [if_true, List.mem_cons, true_or, h1, if_false]
   omega
  ·
   simp only [List.mem_cons, ha, false_or, if_false]
   omega
def outT (op : List S85) (os : List Int) : List Give := (op.zip os).map fun p => oGive p.1 p.2
theorem outT_cons (g : S85) (op : List S85) (o : Int) (os : List Int) : outT (g :: op) (o :: os) = oGive g o :: outT op os := rfl
theorem sumTo_cons (t : Give) (T : List Give) (i : Nat) : sumTo (t :: T) i = t.to i + sumTo T i := by simp [sumTo]
theorem give_to (g : S85) (o u : Int) (hu : 0 ≤ u) : (oGive g o).to u.toNat = (if g.f0 = u then 3 - o else 0) + (if g.f1 = u then o - 1 else 0) := by
 unfold Give.to oGive
 rw [show ((u.toNat : Nat) : Int) = u from by omega]
theorem out_both (L : List Int) (hn : L.Nodup) (h0 : ∀ u ∈ L, 0 ≤ u) : ∀ (op : List S85) (os : List Int), os.length = op.length → (∀ o ∈ os, 1 ≤ o ∧ o ≤ 3) → bothS L op ≤ (L.map fun u => sumTo (outT op os) u.toNat).sum
 | [], os, hl, _ => by
  have : ∀ L : List Int, (L.map fun _ => (0 : Int)).sum = 0 := by
   intro L
   induction L with
   | nil => rfl
   | cons v L ih => rw [List.map_cons, List.sum_cons, ih]; rfl
  show 0 ≤ (L.map fun u => (0 : Int)).sum
  rw [this]
  exact Int.le_refl _
 | g :: op, [], hl, _ => by simp at hl
 | g :: op, o :: os, hl, ho => by
  have ih := out_both L hn h0 op os (by simpa using hl) (fun x hx => ho x (List.mem_cons_of_mem _ hx))
  have h1 := ho o List.mem_cons_self
  have e1 : (L.map fun u => sumTo (outT (g :: op) (o :: os)) u.toNat).sum = (L.map fun u => ((if g.f0 = u then 3 - o else 0) + (if g.f1 = u then o - 1 else 0)) + sumTo (outT op os) u.toNat).sum := sum_congr' L (fun u hu => by rw [outT_cons, sumTo_cons, give_to g o u (h0 u hu)])
  have e2 := sum_add (fun u => (if g.f0 = u then 3 - o else 0) + (if g.f1 = u then o - 1 else 0)) (fun u => sumTo (outT op os) u.toNat) L
  have e3 := sum_add (fun u => if g.f0 = u then 3 - o else 0) (fun u => if g.f1 = u then o - 1 else 0) L
  rw [one_sum g.f0 (3 - o) L hn, one_sum g.f1 (o - 1) L hn] at e3
  rw [e1, e2, e3]
  have e4 : bothS L (g :: op) = (if g.f0 ∈ L ∧ g.f1 ∈ L then 2 else 0) + bothS L op := by
   unfold bothS
   rw [List.map_cons, List.sum_cons]
  rw [e4]
  by_cases c0 : g.f0 ∈ L
  ·
   by_cases c1 : g.f1 ∈ L
   ·
    rw [if_pos ⟨c0, c1⟩, if_pos c0, if_pos c1]
    omega
   ·
    rw [if_neg (fun h => c1 h.2), if_pos c0, if_neg c1]
    omega
  ·
   rw [if_neg (fun h => c0 h.1), if_neg c0]
   split <;> omega
theorem out_with (team : Int) (h0 : 0 ≤ team) : ∀ (op : List S85) (os : List Int), os.length = op.length → (∀ g ∈ op, g.f0 ≠ g.f1) → (∀ o ∈ os, 1 ≤ o ∧ o ≤ 3) → sumTo (outT op os) team.toNat ≤ openWith op team
 | [], os, _, _, _ => Int.le_refl _
 | g :: op, [], hl, _, _ => by simp at hl
 | g :: op, o :: os, hl, hg, ho => by
  have ih := out_with team h0 op os (by simpa using hl) (fun x hx => hg x (List.mem_cons_of_mem _ hx)) (fun x hx => ho x (List.mem_cons_of_mem _ hx))
  have h1 := ho o List.mem_cons_self
  have h2 := hg g List.mem_cons_self
  have e : openWith (g :: op) team = (if g.f0 = team ∨ g.f1 = team then 2 else 0) + openWith op team := by
   unfold openWith
   rw [List.map_cons, List.sum_cons]
  rw [outT_cons, sumTo_cons, give_to g o team h0, e]
  by_cases c0 : g.f0 = team
  ·
   rw [if_pos c0, if_neg (fun h => h2 (c0.trans h.symm)), if_pos (.inl c0)]
   omega
  ·
   by_cases c1 : g.f1 = team
   ·
    rw [if_neg c0, if_pos c1, if_pos (.inr c1)]
    omega
   ·
    rw [if_neg c0, if_neg c1, if_neg (fun h => h.elim c0 c1)]
    omega
theorem out_shown (team : Int) (h0 : 0 ≤ team) (t : Int) (t0 : 0 ≤ t) : ∀ (op : List S85) (gv : List Int), gv.length = op.length → (∀ g ∈ op, g.f0 ≠ g.f1) → (∀ i, i < op.length → ((op.getD i z85).f0 = team → gv.getD i 0 = 2) ∧ ((op.getD i z85).f1 = team → gv.getD i 0 = 0)) →
  sumTo (outT op (gv.map fun x => 3 - x)) t.toNat = if t = team then openWith op team else cons team op gv t
 | [], gv, _, _, _ => by
  rw [show openWith [] team = 0 from rfl, show cons team [] gv t = 0 from by simp [cons], show sumTo (outT [] (gv.map fun x => 3 - x)) t.toNat = 0 from rfl]
  simp
 | g :: op, [], hl, _, _ => by simp at hl
 | g :: op, x :: gv, hl, hg, hi => by
  have ih := out_shown team h0 t t0 op gv (by simpa using hl) (fun x hx => hg x (List.mem_cons_of_mem _ hx)) (fun i h => by
   have := hi (i + 1) (by simpa using h)
   simpa only [List.getD_cons_succ] using this)
  have h1 := hi 0 (by simp)
  simp only [List.getD_cons_zero] at h1
  have h2 := hg g List.mem_cons_self
  have e : openWith (g :: op) team = (if g.f0 = team ∨ g.f1 = team then 2 else 0) + openWith op team := by
   unfold openWith
   rw [List.map_cons, List.sum_cons]
  rw [List.map_cons, outT_cons, sumTo_cons, give_to g (3 - x) t t0, ih, e]
  simp only [cons]
  unfold con
  by_cases c : t = team
  ·
   subst c
   rw [if_pos rfl, if_pos rfl]
   by_cases c0 : g.f0 = t
   ·
    have := h1.1 c0
    rw [if_pos c0, if_neg (fun h => h2 (c0.trans h.symm)), if_pos (.inl c0)]
    omega
   ·
    by_cases c1 : g.f1 = t
    ·
     have := h1.2 c1
     rw [if_neg c0, if_pos c1, if_pos (.inr c1)]
     omega
    ·
     rw [if_neg c0, if_neg c1, if_neg (fun h => h.elim c0 c1)]
     omega
  ·
   rw [if_neg c, if_neg c]
   by_cases c0 : g.f0 = t
   ·
    rw [if_pos c0, if_neg (fun h => h2 (c0.trans h.symm))]
    by_cases ct : g.f1 = team
    ·
     have := h1.2 ct
     rw [if_pos (.inr ct)]
     omega
    ·
     rw [if_neg (by omega), if_pos c0]
     omega
   ·
    by_cases c1 : g.f1 = t
    ·
     rw [if_neg c0, if_pos c1]
     by_cases ct : g.f0 = team
     ·
      have := h1.1 ct
      rw [if_pos (.inl ct)]
      omega
     ·
      rw [if_neg (by omega), if_neg c0, if_pos c1]
      omega
    ·
     rw [if_neg c0, if_neg c1]
     split <;> omega
def chkL (n : Nat) (sn : List Bool) : Bool := !((seenL sn).all fun u => decide (u < (n : Int))) || (decide (seenL sn = []) || (subsL n).contains (seenL sn))
theorem chk2 : ∀ a b c d e f : Bool, chkL 2 [a, b, c, d, e, f] = true := by decide +kernel
theorem chk3 : ∀ a b c d e f : Bool, chkL 3 [a, b, c, d, e, f] = true := by decide +kernel
theorem chk4 : ∀ a b c d e f : Bool, chkL 4 [a, b, c, d, e, f] = true := by decide +kernel
theorem chk5 : ∀ a b c d e f : Bool, chkL 5 [a, b, c, d, e, f] = true := by decide +kernel
theorem chk6 : ∀ a b c d e f : Bool, chkL 6 [a, b, c, d, e, f] = true := by decide +kernel
theorem chk_ok (N : Nat) (n2 : 2 ≤ N) (n6 : N ≤ 6) (sn : List Bool) (hl : sn.length = 6) (hne : seenL sn ≠ []) (hn : ∀ u ∈ seenL sn, u < (N : Int)) : seenL sn ∈ subsL N := by
 have key : chkL N sn = true := by
  match sn, hl with
  | [a, b, c, d, e, f], _ =>
   have : N = 2 ∨ N = 3 ∨ N = 4 ∨ N = 5 ∨ N = 6 := by omega
   rcases this with rfl | rfl | rfl | rfl | rfl
   ·
    exact chk2 a b c d e f
   ·
    exact chk3 a b c d e f
   ·
    exact chk4 a b c d e f
   ·
    exact chk5 a b c d e f
   ·
    exact chk6 a b c d e f
 unfold chkL at key
 rw [Bool.or_eq_true, Bool.or_eq_true, Bool.not_eq_true', decide_eq_true_eq, List.contains_iff_mem] at key
 rcases key with h | h | h
 ·
  have : ((seenL sn).all fun u => decide (u < (N : Int))) = true := List.all_eq_true.2 fun u hu => decide_eq_true (hn u hu)
  rw [this] at h
  cases h
 ·
  exact absurd h hne
 ·
  exact h
def goodL (n t : Nat) (b : List Int) : Bool := (decide b.Nodup && decide (b.length ≤ 6)) && (b.all (fun u => decide (0 ≤ u) && (decide (u < (n : Int)) && !decide (u = (t : Int)))) && okFrom n t b 0 b.length)
theorem good_all : ((List.range 7).all fun n => (List.range 6).all fun t => (subsL n).all fun b => b.contains (t : Int) || goodL n t b) = true := by kernel_rfl
theorem good_ok (N T : Nat) (n6 : N ≤ 6) (hT : T < N) (b : List Int) (hb : b ∈ subsL N) (ht : (T : Int) ∉ b) : b.Nodup ∧ b.length ≤ 6 ∧ (∀ u ∈ b, 0 ≤ u ∧ u < (N : Int) ∧ u ≠ (T : Int)) ∧ okFrom N T b 0 b.length = true := by
 have := List.all_eq_true.1 (List.all_eq_true.1 (List.all_eq_true.1 good_all N (List.mem_range.2 (by omega))) T (List.mem_range.2 (by omega))) b hb
 rw [Bool.or_eq_true, List.contains_iff_mem] at this
 have := this.resolve_left ht
 unfold goodL at this
 simp only [Bool.and_eq_true, decide_eq_true_eq, List.all_eq_true, Bool.not_eq_true', decide_eq_false_iff_not] at this
 exact ⟨this.1.1, this.1.2, fun u hu => ⟨(this.2.1 u hu).1, (this.2.1 u hu).2.1, (this.2.1 u hu).2.2⟩, this.2.2⟩
def ptsT (l : List S85) (os : List Int) (u : Int) : Int := sumTo (playT l os) u.toNat
section
variable {n : Int} {l : List S85} (hc : checkF n l = 0)
include hc
theorem ptsT_eq {os : List Int} (ho : os.length = (openG l).length) (u : Int) : ptsT l os u = (sumsF l).getD u.toNat 0 + sumTo (outT (openG l) os) u.toNat := by
 unfold ptsT
 rw [playT_sum _ _ _ ho, sums_get hc]
 rfl
theorem ruled_more (team : Int) (ht : 0 ≤ team) (L : List Int) (hn : L.Nodup) (h0 : ∀ u ∈ L, 0 ≤ u) (hl : L.length ≤ 100) (hL : ruledF (reachF l team) (sumsF l) (openG l) L = true) (os : List Int) (ho : os.length = (openG l).length) (hos : ∀ o ∈ os, 1 ≤ o ∧ o ≤ 3) :
  ∃ u ∈ L, ptsT l os team < ptsT l os u := by
 obtain ⟨h1, h2⟩ := (ruled_iff hc team L hl).1 hL
 have hne : ∀ g ∈ openG l, g.f0 ≠ g.f1 := fun g hg => (open_ok hc hg).2.2
 have h3 := out_both L hn h0 (openG l) os ho hos
 have h4 := out_with team ht (openG l) os ho hne hos
 have h5 := ptsT_eq hc ho team
 have h6 := reach_eq hc team
 by_cases hx : ∃ u ∈ L, ptsT l os team < ptsT l os u
 ·
  exact hx
 ·
  exfalso
  have hle : ∀ u ∈ L, -(reachF l team) ≤ -(ptsT l os u) := by
   intro u hu
   have : ¬ ptsT l os team < ptsT l os u := fun h => hx ⟨u, hu, h⟩
   omega
  have h7 := sum_more (-(reachF l team)) (fun u => -(ptsT l os u)) L hle
  have h8 : (L.map fun u => -(ptsT l os u)).sum = -((L.map fun u => (sumsF l).getD u.toNat 0).sum + (L.map fun u => sumTo (outT (openG l) os) u.toNat).sum) := by
   rw [← sum_add (fun u => (sumsF l).getD u.toNat 0) (fun u => sumTo (outT (openG l) os) u.toNat) L]
   have neg : ∀ (f : Int → Int) (L : List Int), (L.map fun u => -(f u)).sum = -((L.map f).sum) := by
    intro f L
    induction L with
    | nil => rfl
    | cons v L ih =>
     rw [List.map_cons, List.map_cons, List.sum_cons, List.sum_cons, ih]
     omega
   rw [neg (ptsT l os) L]
   exact congrArg _ (sum_congr' L (fun u _ => ptsT_eq hc ho u))
  rw [h8, Int.neg_mul] at h7
  omega
theorem can_eq {team : Int} (h0 : 0 ≤ team) (hn : team < n) : askF n l team = 0 := by
 unfold askF
 rw [if_pos hc, if_pos ⟨h0, hn⟩]
theorem can_first (team : Int) (h0 : 0 ≤ team) (hn : team < n) :
  ((canF n l team).1 = true ∧ (canF n l team).2 = 0 ∧ (showsF n l team).2 = 0 ∧ (showsF n l team).1.length = (openG l).length ∧ (∀ o ∈ (showsF n l team).1, 1 ≤ o ∧ o ≤ 3) ∧ ∀ u : Int, 0 ≤ u → u < 6 → ptsT l (showsF n l team).1 u ≤ ptsT l (showsF n l team).1 team) ∨
  ((canF n l team).1 = false ∧ (canF n l team).2 = 0 ∧ showsF n l team = ([], 9) ∧ ∃ L ∈ subsL n.toNat, team ∉ L ∧ ruledF (reachF l team) (sumsF l) (openG l) L = true) := by
 obtain ⟨r, gv, hv, e, h1, h2⟩ := raceP_runs hc team
 have ha := can_eq hc h0 hn
 obtain ⟨_, n2, n6, _⟩ := check_ok hc
 have hne : ∀ g ∈ openG l, g.f0 ≠ g.f1 := fun g hg => (open_ok hc hg).2.2
 unfold canF showsF
 rw [if_pos ha, if_pos ha, e, Option.getD_some]
 cases r with
 | true =>
  refine .inl ⟨rfl, rfl, ?_⟩
  obtain ⟨hI, hle⟩ := h1 rfl
  rw [if_pos rfl]
  have hgl : gv.length = (openG l).length := hI.gl
  have hol : (gv.map fun x => 3 - x).length = (openG l).length := by rw [List.length_map]; exact hgl
  refine ⟨rfl, hol, fun o ho => ?_, fun u u0 u6 => ?_⟩
  ·
   obtain ⟨x, hx, rfl⟩ := List.mem_map.1 ho
   have := hI.g2 x hx
   omega
  ·
   show ptsT l (gv.map fun x => 3 - x) u ≤ ptsT l (gv.map fun x => 3 - x) team
   rw [ptsT_eq hc hol, ptsT_eq hc hol, out_shown team h0 u u0 (openG l) gv hgl hne hI.gt, out_shown team h0 team h0 (openG l) gv hgl hne hI.gt, if_pos rfl]
   have hr := reach_eq hc team
   by_cases c : u = team
   ·
    subst c
    rw [if_pos rfl]
    exact Int.le_refl _
   ·
    rw [if_neg c]
    have hh := hI.hh u u0 u6
    have h3 := hle u.toNat (by omega) (by omega)
    have hh : hv.getD u.toNat 0 = (sumsF l).getD u.toNat 0 + cons team (openG l) gv u := hh
    omega
 | false =>
  refine .inr ⟨rfl, rfl, rfl, ?_⟩
  have hr := reach_eq hc team
  have hw := openWith_range team (openG l)
  have key : ∃ sn : List Bool, sn.length = 6 ∧ seenL sn ≠ [] ∧ (∀ u ∈ seenL sn, u ≠ team ∧ u < n) ∧ reachF l team * (seenL sn).length < ((seenL sn).map fun u => (sumsF l).getD u.toNat 0).sum + bothS (seenL sn) (openG l) := by
   rcases h2 rfl with hC | ⟨y, hy, hlt⟩
   ·
    exact cut_sum (raceP_ok hc team) hC
   ·
    obtain ⟨i, hi, rfl⟩ := List.getElem_of_mem hy
    have hi6 : i < 6 := by rw [sumsF_length] at hi; exact hi
    have hg : (sumsF l).getD i 0 = (sumsF l)[i] := by rw [List.getD_eq_getElem?_getD, List.getElem?_eq_getElem hi]; rfl
    have hs : seenL (seen0.set i true) = [(i : Int)] := by
     match i, hi6 with
     | 0, _ | 1, _ | 2, _ | 3, _ | 4, _ | 5, _ => rfl
    refine ⟨seen0.set i true, by rw [List.length_set]; rfl, by rw [hs]; exact List.cons_ne_nil _ _, ?_, ?_⟩
    ·
     rw [hs]
     intro u hu
     rw [List.mem_singleton] at hu
     subst hu
     refine ⟨fun h => ?_, ?_⟩
     ·
      subst h
      rw [Int.toNat_natCast] at hr
      omega
     ·
      rcases Int.lt_or_le (i : Int) n with h | h
      ·
       exact h
      ·
       have := sums_zero hc i h
       have := (reach_rng hc team).1
       omega
    ·
     rw [hs]
     have hb := (both_sum [(i : Int)] (openG l) 0 (Int.le_refl _) (by have := open_len hc; omega)).2.1
     simp only [List.map_cons, List.map_nil, List.sum_cons, List.sum_nil, List.length_singleton, Int.toNat_natCast]
     omega
  obtain ⟨sn, hl, hne2, hu, hlt⟩ := key
  refine ⟨seenL sn, chk_ok n.toNat (by omega) (by omega) sn hl hne2 (fun u hu2 => by have := (hu u hu2).2; omega), fun hm => (hu team hm).1 rfl, (ruled_iff hc team _ ?_).2 ⟨hne2, hlt⟩⟩
  unfold seenL
  rw [List.length_map]
  have := List.length_filter_le (fun i => sn.getD i false) (List.range 6)
  rw [List.length_range] at this
  omega
end
end Go.Proofs.Ytmnamkcjldaoeaa.PAll
namespace Go.Proofs.Ytmnamkcjldaoeaa.PAll
open Go.RowKit Go.Proofs.YtmnamkcjldaoeaaW.PrintWords Go.Proofs.YtmnamkcjldaoeaaW.PrintLast Go.Proofs.YtmnamkcjldaoeaaW.PrintMore
set_option linter.unusedVariables false
set_option linter.unusedSimpArgs false
def readyB (a : Int) (l : List S70) : Bool := decide (l.length ≤ 24) && decide (checkF a (l.map toG) = 0)
def pts (n : Int) (l : List S85) (os : List Int) : List Int := (playT l os).foldl step2 (List.replicate n.toNat 0)
theorem pts_len (n : Int) (l : List S85) (os : List Int) : (pts n l os).length = n.toNat := by
 unfold pts
 rw [fold2_len, List.length_replicate]
theorem pts_get {n : Int} {l : List S85} {os : List Int} (hc : checkF n l = 0) (ho : os.length = (openG l).length) (hos : ∀ o ∈ os, 1 ≤ o ∧ o ≤ 3) (i : Nat) : (pts n l os).getD i 0 = sumTo (playT l os) i := by
 obtain ⟨h20, n2, n6, hok⟩ := check_ok hc
 obtain ⟨p1, p2⟩ := playT_ok (m := n.toNat) (by omega) l os hok ho hos
 unfold pts
 rw [fold2_get _ (List.replicate n.toNat 0) 0 (by simpa using p1) (fun i => by rw [rep_get]; omega) (by omega), rep_get]
 omega
theorem sumTo_nonneg {m : Nat} : ∀ (T : List Give) (i : Nat), (∀ t ∈ T, t.ok m) → 0 ≤ sumTo T i
 | [], i, _ => by simp [sumTo]
 | t :: T, i, h => by
  have h1 := sumTo_nonneg T i (fun u hu => h u (List.mem_cons_of_mem _ hu))
  have h2 := Give.to_range (h t List.mem_cons_self) i
  simp only [sumTo, List.map_cons, List.sum_cons] at h1 ⊢
  omega
end Go.Proofs.Ytmnamkcjldaoeaa.PAll
namespace Go.Proofs.Ytmnamkcjldaoeaa.PAll
open Go.RowKit Go.Proofs.YtmnamkcjldaoeaaW.PrintWords Go.Proofs.YtmnamkcjldaoeaaW.PrintLast Go.Proofs.YtmnamkcjldaoeaaW.PrintMore
set_option linter.unusedVariables false
set_option linter.unusedSimpArgs false
set_option linter.unusedSectionVars false
def firstB (p : List Int) (t : Int) : Bool := p.all fun x => !decide (x > rd p t)
theorem First_ev (p : List Int) (t : Int) (h0 : 0 ≤ t) (ht : t < p.length) (hp : p.length ≤ 1000) : Ev (fun k => kingpinref08_First.f k p t) (firstB p t) := by
 have main : ∀ (d i : Nat), p.length - i = d → i ≤ p.length → Ev (fun k => kingpinref08_First.l0 k p t (i : Int)) ((p.drop i).all fun x => !decide (x > rd p t)) := by
  intro d
  induction d with
  | zero =>
   intro i hd hi
   obtain rfl : i = p.length := by omega
   refine Ev.step (f := fun _ => some true) (fun k => ?_) ?_
   ·
    simp only [kingpinref08_First.l0]
    rw [if_neg (by omega)]
   ·
    simpa using Ev.now true
  | succ d ih =>
   intro i hd hi
   rw [dropI p i (by omega), List.all_cons]
   by_cases c : rd p (i : Int) > rd p t
   ·
    rw [decide_eq_true c]
    refine Ev.step (f := fun _ => some false) (fun k => ?_) (Ev.now _)
    simp only [kingpinref08_First.l0]
    rw [if_pos (by omega), if_pos (by omega), if_pos h0, if_pos ht, if_pos c]
   ·
    rw [decide_eq_false c, Bool.not_false, Bool.true_and]
    refine Ev.step (fun k => ?_) (ih (i + 1) (by omega) (by omega))
    simp only [kingpinref08_First.l0]
    rw [if_pos (by omega), if_pos (by omega), if_pos h0, if_pos ht, if_neg c, wrapN i (by omega)]
 have := main p.length 0 rfl (Nat.zero_le _)
 rw [List.drop_zero] at this
 exact this
theorem surelyB_iff (l : List S85) (team own : Int) : ∀ (d t : Nat), surelyB l team own d t = true ↔ ∀ u : Nat, t ≤ u → u < t + d → (u : Int) ≠ team → reachF l u ≤ own
 | 0, t => ⟨fun _ u h1 h2 => by omega, fun _ => rfl⟩
 | d + 1, t => by
  have ih := surelyB_iff l team own d (t + 1)
  rw [show surelyB l team own (d + 1) t = if (t : Int) ≠ team ∧ reachF l t > own then false else surelyB l team own d (t + 1) from rfl]
  by_cases c : (t : Int) ≠ team ∧ reachF l t > own
  ·
   rw [if_pos c]
   exact ⟨fun h => (by cases h), fun h => by
    have := h t (Nat.le_refl _) (by omega) c.1
    have := c.2
    omega⟩
  ·
   rw [if_neg c, ih]
   constructor
   ·
    intro h u h1 h2 hne
    rcases Nat.eq_or_lt_of_le h1 with rfl | h3
    ·
     rcases Int.lt_or_le own (reachF l (t : Int)) with h4 | h4
     ·
      exact absurd ⟨hne, h4⟩ c
     ·
      exact h4
    ·
     exact h u h3 (by omega) hne
   ·
    exact fun h u h1 h2 hne => h u (by omega) (by omega) hne
section
variable {n : Int} {l : List S85} (hc : checkF n l = 0)
include hc
theorem ptsT_le (team : Int) (h0 : 0 ≤ team) {os : List Int} (ho : os.length = (openG l).length) (hos : ∀ o ∈ os, 1 ≤ o ∧ o ≤ 3) : ptsT l os team ≤ reachF l team ∧ (sumsF l).getD team.toNat 0 ≤ ptsT l os team := by
 have h4 := out_with team h0 (openG l) os ho (fun g hg => (open_ok hc hg).2.2) hos
 rw [ptsT_eq hc ho, reach_eq hc]
 refine ⟨by omega, ?_⟩
 have : 0 ≤ sumTo (outT (openG l) os) team.toNat := by
  refine sumTo_nonneg (m := n.toNat) _ _ fun t ht => ?_
  obtain ⟨p, hp, rfl⟩ := List.mem_map.1 ht
  have h1 := List.of_mem_zip (a := p.1) (b := p.2) (by simpa using hp)
  obtain ⟨_, n2, n6, hok⟩ := check_ok hc
  exact oGive_ok (hok p.1 (List.mem_filter.1 h1.1).1) (by omega) (hos p.2 h1.2)
 omega
theorem pts_rd {os : List Int} (ho : os.length = (openG l).length) (hos : ∀ o ∈ os, 1 ≤ o ∧ o ≤ 3) (t : Int) : rd (pts n l os) t = ptsT l os t := pts_get hc ho hos t.toNat
theorem first_iff {os : List Int} (ho : os.length = (openG l).length) (hos : ∀ o ∈ os, 1 ≤ o ∧ o ≤ 3) (t : Int) : firstB (pts n l os) t = true ↔ ∀ u : Int, 0 ≤ u → u < n → ptsT l os u ≤ ptsT l os t := by
 unfold firstB
 rw [List.all_eq_true, pts_rd hc ho hos]
 constructor
 ·
  intro h u u0 un
  have hl := pts_len n l os
  have hi : u.toNat < (pts n l os).length := by omega
  have := h _ (List.getElem_mem hi)
  have e : (pts n l os)[u.toNat] = ptsT l os u := by
   rw [← pts_rd hc ho hos u]
   unfold rd
   rw [List.getD_eq_getElem?_getD, List.getElem?_eq_getElem hi]
   rfl
  rw [e, Bool.not_eq_true', decide_eq_false_iff_not] at this
  omega
 ·
  intro h x hx
  obtain ⟨i, hi, rfl⟩ := List.getElem_of_mem hx
  have hl := pts_len n l os
  have e : (pts n l os)[i] = ptsT l os (i : Int) := by
   rw [← pts_rd hc ho hos (i : Int)]
   unfold rd
   rw [Int.toNat_natCast, List.getD_eq_getElem?_getD, List.getElem?_eq_getElem hi]
   rfl
  have := h (i : Int) (by omega) (by omega)
  rw [e, Bool.not_eq_true', decide_eq_false_iff_not]
  omega
theorem first_can (team : Int) (h0 : 0 ≤ team) (hn : team < n) {os : List Int} (ho : os.length = (openG l).length) (hos : ∀ o ∈ os, 1 ≤ o ∧ o ≤ 3) (hf : ∀ u : Int, 0 ≤ u → u < n → ptsT l os u ≤ ptsT l os team) : (canF n l team).1 = true := by
 obtain ⟨_, n2, n6, _⟩ := check_ok hc
 rcases can_first hc team h0 hn with h | ⟨_, _, _, L, hL, hT, hr⟩
 ·
  exact h.1
 ·
  obtain ⟨N, rfl⟩ : ∃ N : Nat, n = N := ⟨n.toNat, by omega⟩
  obtain ⟨T, rfl⟩ : ∃ T : Nat, team = T := ⟨team.toNat, by omega⟩
  rw [Int.toNat_natCast] at hL
  obtain ⟨g1, g2, g3, _⟩ := good_ok N T (by omega) (by omega) L hL hT
  obtain ⟨u, hu, hlt⟩ := ruled_more hc (T : Int) h0 L g1 (fun u hu => (g3 u hu).1) (by omega) hr os ho hos
  have := hf u (g3 u hu).1 (g3 u hu).2.1
  omega
theorem surely_first (team : Int) (h0 : 0 ≤ team) (hn : team < n) (hs : (surelyF n l team).1 = true) {os : List Int} (ho : os.length = (openG l).length) (hos : ∀ o ∈ os, 1 ≤ o ∧ o ≤ 3) : ∀ u : Int, 0 ≤ u → u < n → ptsT l os u ≤ ptsT l os team := by
 intro u u0 un
 unfold surelyF at hs
 rw [if_pos (can_eq hc h0 hn)] at hs
 by_cases c : u = team
 ·
  subst c
  exact Int.le_refl _
 ·
  have h1 := (surelyB_iff l team _ n.toNat 0).1 hs u.toNat (by omega) (by omega) (by omega)
  rw [show ((u.toNat : Nat) : Int) = u from by omega] at h1
  have h2 := ptsT_le hc u u0 ho hos
  have h3 := ptsT_le hc team h0 ho hos
  omega
theorem surely_ok (team : Int) (h0 : 0 ≤ team) (hn : team < n) : (surelyF n l team).2 = 0 := by
 unfold surelyF
 rw [if_pos (can_eq hc h0 hn)]
end
end Go.Proofs.Ytmnamkcjldaoeaa.PAll
namespace Go.Proofs.Ytmnamkcjldaoeaa.PAll
open Go.RowKit Go.Proofs.YtmnamkcjldaoeaaW.PrintWords Go.Proofs.YtmnamkcjldaoeaaW.PrintLast Go.Proofs.YtmnamkcjldaoeaaW.PrintMore
set_option linter.unusedVariables false
set_option linter.unusedSimpArgs false
theorem runs_race {n : Int} {l : List S85} (hc : checkF n l = 0) (team : Int) (B b : Nat) (Ao : Option Addr) (co : Nat) (g : Value) (w : World)
  (ha : RaceAt w b team (reachF l team) (sumsF l) (.slice Ao (openG l).length co) g) (ho : Kd.C k85 w Ao (openG l).length (openG l)) (hA : ∀ ad, Ao = some ad → ad.block < b) (hB : B ≤ b)
  (r : Bool) (gv hv : List Int) (h : runsF (openG l) team (reachF l team) (sumsF l) = some (r, gv, hv)) :
  Calls Try.prog 80 #[.pointer (some ⟨b, 0, none⟩)] w fun e w' => e = .returned (.bool r) ∧ (r = true → ∃ Ag cg, RaceAt w' b team (reachF l team) (sumsF l) (.slice Ao (openG l).length co) (.slice Ag gv.length cg) ∧ Kd.C (Kd.int .i64) w' Ag gv.length gv) ∧ Below B w w' :=
 runs_calls (raceP n l team) (raceP_ok hc team) (reach_rng hc team).1 (fun t h _ => sums_zero hc t.toNat (by have : n ≤ t := h; omega)) B b Ao co g w ha ho (fun ad e => ⟨by have := hA ad e; omega, by have := hA ad e; have := ha.lt; omega⟩) hB r gv hv h
set_option maxRecDepth 100000 in
set_option maxHeartbeats 4000000 in
theorem league_CanFirst.calls (a0_0 : Int) (A0_1 : Option Addr) (c0_1 : Nat) (l0_1 : List (S85)) (a1 : Int) (r1 : Bool) (r2 : Int) (w : World) (hr0_1 : Kd.C k85 w A0_1 l0_1.length l0_1) (hc0_1 : l0_1.length ≤ c0_1) (h : league_CanFirst.f a0_0 l0_1 a1 = some (r1, r2)) :
  Calls Try.prog 43 #[.agg #[.int .i64 a0_0, .slice A0_1 l0_1.length c0_1], .int .i64 a1] w fun e w' => e = .returned (.tuple #[.bool r1, .int .i64 r2]) ∧ Below w.heap.size w w' := by
 replace h := Option.some.inj h
 unfold canF at h
 have HR := Aside0.mk hr0_1
 have HC := Aside0.mk hc0_1
 clear hr0_1 hc0_1
 have HW : Aside0 (Below w.heap.size w (w.alloc (.cells #[.int .i64 a0_0, .slice A0_1 l0_1.length c0_1] 32))) := ⟨below_alloc (Below.refl _ _) _⟩
 have HBK : Aside0 ((w.alloc (.cells #[.int .i64 a0_0, .slice A0_1 l0_1.length c0_1] 32)).heap[w.heap.size]? = some (.cells #[.int .i64 a0_0, .slice A0_1 l0_1.length c0_1] 32 (0, 0))) := ⟨blk_new _ _⟩
 by_cases h0 : askF a0_0 l0_1 a1 = 0
 rotate_left
 ·
  rw [if_neg h0] at h
  obtain ⟨rfl, h2⟩ := Prod.mk.inj h
  obtain ⟨v, hv⟩ : ∃ v, askF a0_0 l0_1 a1 = v := ⟨_, rfl⟩
  rw [hv] at h0 h2
  subst h2
  have bv : (v != 0) = true := bne_iff_ne.2 h0
  have HV := Lib.hid hv
  clear hv h0 h
  go_enter Try.func43, Try.ntmps43
  go_wp2_with (go_at_call 69; (with_reducible refine (asked_calls a0_0 _ _ l0_1 a1 _ ?hr HC.out _ HV.out).mono ?_); (case hr => exact Kd.C_alloc HR.out _); rintro e w1 ⟨rfl, hb1⟩; have HB1 := Aside0.mk hb1; clear hb1)
  go_ret2
  exact ⟨rfl, HW.out.trans (HB1.out.mono HW.out.size)⟩
 ·
  rw [if_pos h0] at h
  obtain ⟨h1, rfl⟩ := Prod.mk.inj h
  obtain ⟨hck, ht0, htn⟩ := ask_ok h0
  obtain ⟨h20, n2, n6, hok⟩ := check_ok hck
  obtain ⟨r, gv, hv, hruns, _, _⟩ := raceP_runs hck a1
  rw [hruns] at h1
  have HSO := Lib.hid (check_sound hck)
  have H0 := Lib.hid h0
  have H20 := Lib.hid h20
  have HRU := Lib.hid hruns
  have HCK := Lib.hid hck
  have HRR : Hid (r = r1) := h1
  clear h h0 hck h20 hok h1 hruns
  go_enter Try.func43, Try.ntmps43
  go_wp2_with (first
   | (go_at_call 69; (with_reducible refine (asked_calls a0_0 _ _ l0_1 a1 _ ?hr HC.out _ H0.out).mono ?_); (case hr => exact Kd.C_alloc HR.out _); rintro e w1 ⟨rfl, hb1⟩; have HG := Aside0.mk (blk_below HBK.out hb1); have HB := Aside0.mk (HW.out.trans (hb1.mono HW.out.size)); clear hb1; have g0 : w1.cell? ⟨w.heap.size, 0, none⟩ = some (.int .i64 a0_0) := (blk_cell HG.out 0).trans rfl; have g1 : w1.cell? ⟨w.heap.size, 1, none⟩ = some (.slice A0_1 l0_1.length c0_1) := (blk_cell HG.out 1).trans rfl)
   | (go_at_call 70; (with_reducible refine (race_calls a0_0 A0_1 c0_1 l0_1 a1 _ (Kd.C_below HR.out HB.out) H20.out HSO.out ht0 ?h6).mono ?_); (case h6 => omega); rintro e w6 ⟨b6, Ao, co, rfl, hb6, hra6, hro6, hao6, hbb6⟩; have HB6 := Aside0.mk (below_step HB.out hbb6); have HRA := Aside0.mk hra6; have HRO := Aside0.mk hro6; have HAO := Aside0.mk hao6; have HBB := Aside0.mk (Nat.le_trans HB.out.size hb6); clear hb6 hra6 hro6 hao6 hbb6)
   | (go_at_call 80; (with_reducible refine (runs_race HCK.out a1 w.heap.size b6 Ao co _ _ HRA.out HRO.out HAO.out HBB.out r gv hv HRU.out).mono ?_); rintro e w7 ⟨rfl, _, hb7⟩; have HB7 := Aside0.mk (HB6.out.trans hb7); clear hb7))
  go_ret2
  exact ⟨by rw [HRR.out]; rfl, HB7.out⟩
end Go.Proofs.Ytmnamkcjldaoeaa.PAll
namespace Go.Proofs.Ytmnamkcjldaoeaa.PAll
open Go.RowKit Go.Proofs.YtmnamkcjldaoeaaW.PrintWords Go.Proofs.YtmnamkcjldaoeaaW.PrintLast Go.Proofs.YtmnamkcjldaoeaaW.PrintMore
set_option linter.unusedVariables false
set_option linter.unusedSimpArgs false
theorem copy_calls (a : Int) (A : Option Addr) (c : Nat) (l : List S70) (L : List S85) (hL : l.map toG = L) (w : World) (hl : l.length ≤ 1000) (hr : Kd.C k70 w A l.length l) (hc : l.length ≤ c) :
  Calls Try.prog 18 #[.agg #[.int .i64 a, .slice A l.length c]] w fun e w' => ∃ A' c', e = .returned (.agg #[.int .i64 a, .slice A' L.length c']) ∧ Kd.C k85 w' A' L.length L ∧ L.length ≤ c' ∧ Below w.heap.size w w' := by
 subst hL
 obtain ⟨k, hk⟩ := (League_ev a l hl).rounds
 refine (kingpinlaw08_League.calls k a A c l a (l.map toG) w hr hc hk).mono ?_
 rintro e w' ⟨v, rfl, hR, hb⟩
 obtain ⟨A', c', rfl⟩ := Kd.R_slice hR
 exact ⟨A', c', rfl, (Kd.R_reads' hR).2.2, (Kd.R_reads' hR).2.1, hb⟩
theorem open_calls' (a : Int) (A : Option Addr) (c : Nat) (l : List S70) (m : Nat) (hm : (openG (l.map toG)).length = m) (w : World) (hl : l.length ≤ 1000) (hr : Kd.C k70 w A l.length l) (hc : l.length ≤ c) :
  Calls Try.prog 26 #[.agg #[.int .i64 a, .slice A l.length c]] w fun e w' => e = .returned (.int .i64 (m : Int)) ∧ Below w.heap.size w w' := by
 subst hm
 obtain ⟨k, hk⟩ := (Open_ev a l hl).rounds
 exact kingpinref08_Open.calls k a A c l _ w hr hc hk
theorem awake_calls' (w : World) : Calls Try.prog 16 #[] w fun e w' => e = .returned (.bool true) ∧ Below w.heap.size w w' := kingpinlaw08_awake.calls true w rfl
theorem can_calls' (a : Int) (A : Option Addr) (c : Nat) (l : List S85) (t : Int) (w : World) (hr : Kd.C k85 w A l.length l) (hc : l.length ≤ c) (r1 : Bool) (r2 : Int) (h : canF a l t = (r1, r2)) :
  Calls Try.prog 43 #[.agg #[.int .i64 a, .slice A l.length c], .int .i64 t] w fun e w' => e = .returned (.tuple #[.bool r1, .int .i64 r2]) ∧ Below w.heap.size w w' :=
 league_CanFirst.calls a A c l t r1 r2 w hr hc (congrArg some h)
theorem surely_calls' (a : Int) (A : Option Addr) (c : Nat) (l : List S85) (t : Int) (w : World) (hr : Kd.C k85 w A l.length l) (hc : l.length ≤ c) (r1 : Bool) (r2 : Int) (h : surelyF a l t = (r1, r2)) :
  Calls Try.prog 44 #[.agg #[.int .i64 a, .slice A l.length c], .int .i64 t] w fun e w' => e = .returned (.tuple #[.bool r1, .int .i64 r2]) ∧ Below w.heap.size w w' :=
 league_Surely.calls a A c l t r1 r2 w hr hc (congrArg some h)
end Go.Proofs.Ytmnamkcjldaoeaa.PAll
namespace Go.Proofs.Ytmnamkcjldaoeaa.PAll
open Go.RowKit Go.Proofs.YtmnamkcjldaoeaaW.PrintWords Go.Proofs.YtmnamkcjldaoeaaW.PrintLast Go.Proofs.YtmnamkcjldaoeaaW.PrintMore
set_option linter.unusedVariables false
set_option linter.unusedSimpArgs false
theorem gv_next (gv : List Int) (k : Nat) (hk : k < gv.length) : (gv.take (k + 1)).map (fun x => 3 - x) = (gv.take k).map (fun x => 3 - x) ++ [3 - gv.getD k 0] := by
 rw [List.take_succ_eq_append_getElem hk, List.map_append, List.getD_eq_getElem?_getD, List.getElem?_eq_getElem hk]
 rfl
set_option maxRecDepth 100000 in
set_option maxHeartbeats 4000000 in
theorem league_Shows.calls (a0_0 : Int) (A0_1 : Option Addr) (c0_1 : Nat) (l0_1 : List (S85)) (a1 : Int) (r1 : List Int) (r2 : Int) (w : World) (hr0_1 : Kd.C k85 w A0_1 l0_1.length l0_1) (hc0_1 : l0_1.length ≤ c0_1) (h : league_Shows.f a0_0 l0_1 a1 = some (r1, r2)) :
  Calls Try.prog 47 #[.agg #[.int .i64 a0_0, .slice A0_1 l0_1.length c0_1], .int .i64 a1] w fun e w' => ∃ v0_ : Value, e = .returned (.tuple #[v0_, .int .i64 r2]) ∧ Kd.R (Kd.int .u8) 5 w' w.heap.size (fun _ => True) v0_ r1 ∧ Below w.heap.size w w' := by
 replace h := Option.some.inj h
 unfold showsF at h
 have HR := Aside0.mk hr0_1
 have HC := Aside0.mk hc0_1
 clear hr0_1 hc0_1
 have HW : Aside0 (Below w.heap.size w (w.alloc (.cells #[.int .i64 a0_0, .slice A0_1 l0_1.length c0_1] 32))) := ⟨below_alloc (Below.refl _ _) _⟩
 have HBK : Aside0 ((w.alloc (.cells #[.int .i64 a0_0, .slice A0_1 l0_1.length c0_1] 32)).heap[w.heap.size]? = some (.cells #[.int .i64 a0_0, .slice A0_1 l0_1.length c0_1] 32 (0, 0))) := ⟨blk_new _ _⟩
 by_cases h0 : askF a0_0 l0_1 a1 = 0
 rotate_left
 ·
  rw [if_neg h0] at h
  obtain ⟨rfl, h2⟩ := Prod.mk.inj h
  obtain ⟨v, hv⟩ : ∃ v, askF a0_0 l0_1 a1 = v := ⟨_, rfl⟩
  rw [hv] at h0 h2
  subst h2
  have bv : (v != 0) = true := bne_iff_ne.2 h0
  have HV := Lib.hid hv
  clear hv h0 h
  go_enter Try.func47, Try.ntmps47
  go_wp2_with (go_at_call 69; (with_reducible refine (asked_calls a0_0 _ _ l0_1 a1 _ ?hr HC.out _ HV.out).mono ?_); (case hr => exact Kd.C_alloc HR.out _); rintro e w1 ⟨rfl, hb1⟩; have HB1 := Aside0.mk hb1; clear hb1)
  go_ret2
  exact ⟨_, rfl, Kd.R_nil _ _ _ _ _, HW.out.trans (HB1.out.mono HW.out.size)⟩
 ·
  rw [if_pos h0] at h
  obtain ⟨hck, ht0, htn⟩ := ask_ok h0
  obtain ⟨h20, n2, n6, hok⟩ := check_ok hck
  obtain ⟨r, gv, hv, hruns, hyes, _⟩ := raceP_runs hck a1
  rw [hruns] at h
  have HSO := Lib.hid (check_sound hck)
  have H0 := Lib.hid h0
  have H20 := Lib.hid h20
  have HRU := Lib.hid hruns
  have HCK := Lib.hid hck
  have HRR : Hid ((if r = true then (gv.map fun x => 3 - x, 0) else ([], 9)) = (r1, r2)) := h
  have HYES := Lib.hid hyes
  clear h h0 hck h20 hok hruns hyes
  go_enter Try.func47, Try.ntmps47
  go_wp2_with (first
   | (go_at_call 69; (with_reducible refine (asked_calls a0_0 _ _ l0_1 a1 _ ?hr HC.out _ H0.out).mono ?_); (case hr => exact Kd.C_alloc HR.out _); rintro e w1 ⟨rfl, hb1⟩; have HG := Aside0.mk (blk_below HBK.out hb1); have HB := Aside0.mk (HW.out.trans (hb1.mono HW.out.size)); clear hb1; have g0 : w1.cell? ⟨w.heap.size, 0, none⟩ = some (.int .i64 a0_0) := (blk_cell HG.out 0).trans rfl; have g1 : w1.cell? ⟨w.heap.size, 1, none⟩ = some (.slice A0_1 l0_1.length c0_1) := (blk_cell HG.out 1).trans rfl)
   | (go_at_call 70; (with_reducible refine (race_calls a0_0 A0_1 c0_1 l0_1 a1 _ (Kd.C_below HR.out HB.out) H20.out HSO.out ht0 ?h6).mono ?_); (case h6 => omega); rintro e w6 ⟨b6, Ao, co, rfl, hb6, hra6, hro6, hao6, hbb6⟩; have HB6 := Aside0.mk (below_step HB.out hbb6); have HRA := Aside0.mk hra6; have HRO := Aside0.mk hro6; have HAO := Aside0.mk hao6; have HBB := Aside0.mk (Nat.le_trans HB.out.size hb6); clear hb6 hra6 hro6 hao6 hbb6)
   | fail)
  cases r with
  | false =>
   obtain ⟨rfl, rfl⟩ : r1 = [] ∧ r2 = 9 := by
    have := HRR.out
    rw [if_neg Bool.false_ne_true] at this
    cases this
    exact ⟨rfl, rfl⟩
   go_wp2_with (go_at_call 80; (with_reducible refine (runs_race HCK.out a1 w.heap.size b6 Ao co _ _ HRA.out HRO.out HAO.out HBB.out false gv hv HRU.out).mono ?_); rintro e w7 ⟨rfl, _, hb7⟩; have HB7 := Aside0.mk (HB6.out.trans hb7); clear hb7)
   go_ret2
   exact ⟨_, rfl, Kd.R_nil _ _ _ _ _, HB7.out⟩
  | true =>
   obtain ⟨rfl, rfl⟩ : r1 = gv.map (fun x => 3 - x) ∧ r2 = 0 := by
    have := HRR.out
    rw [if_pos rfl] at this
    cases this
    exact ⟨rfl, rfl⟩
   have HG2 := Lib.hid (HYES.out rfl).1
   go_wp2_with (go_at_call 80; (with_reducible refine (runs_race HCK.out a1 w.heap.size b6 Ao co _ _ HRA.out HRO.out HAO.out HBB.out true gv hv HRU.out).mono ?_); rintro e w7 ⟨rfl, hp7, hb7⟩; obtain ⟨Ag, cg, hra7, hgv7⟩ := hp7 rfl; have HB7 := Aside0.mk (HB6.out.trans hb7); have HG7 := Aside0.mk hgv7; have z9 := hra7.c9; clear hb7 hp7 hra7 hgv7)
   have HLE : gv.length ≤ 20 := by rw [HG2.out.gl]; exact open_len HCK.out
   go_loopw [28, 8] (fun v s wr => ∃ k : Nat, k ≤ gv.length ∧ v = .int .i64 k ∧ Aside0 (Kd.R (Kd.int .u8) 5 wr w7.heap.size (fun _ => True) s ((gv.take k).map fun x => 3 - x)) ∧ Aside0 (Below w7.heap.size w7 wr)) (fun v _ _ => gv.length - (intOf v).toNat)
   case atStart => exact ⟨0, Nat.zero_le _, rfl, ⟨Kd.R_nil _ _ _ _ _⟩, ⟨Below.refl _ _⟩⟩
   case round =>
    obtain ⟨k, hk, rfl, hO, hB⟩ := hrel
    by_cases hlt : k < gv.length
    ·
     obtain ⟨ad, e2, q0⟩ := Kd.at_int (Kd.C_below HG7.out hB.out) (k : Int) (by omega) (by omega)
     cases e2
     simp only [Int.toNat_natCast] at q0
     have hx : rd gv ↑k = gv.getD k 0 := rfl
     have hrg := gv_get HG2.out k (by rw [← HG2.out.gl]; exact hlt)
     have HN := Lib.hid (gv_next gv k hlt)
     obtain ⟨x, hxx⟩ : ∃ x, gv.getD k 0 = x := ⟨_, rfl⟩
     have HX := Lib.hid hxx
     rw [hx, hxx] at q0
     rw [hxx] at hrg
     have hlk : ((gv.take k).map fun x => 3 - x).length = k := by
      rw [List.length_map, List.length_take]
      omega
     clear hx hxx
     go_wp2_with ((with_reducible refine gate_builtin (b := .append) (xs := #[.tmp 32, .tmp 36]) rfl ?_); at_builtin; refine Kd.R_append (Kd.int .u8) (w0 := w7) w7.heap.size rfl (.tmp 32) (.tmp 36) 25 5 (.int .u8 0) 1 rfl Try.underlying25 info5 rfl (by decide) (by omega) u8 ((gv.take k).map fun x => 3 - x) (3 - x) [.int .u8 (3 - x)] (fun _ => True) (fun _ => False) rfl rfl ?aP (fun _ hk => hk.elim) ?aF ?aO ?aB ?aS ?aL ?_; (case aP => exact rfl); (case aB => exact hB.out); (case aF => exact (fun _ _ => trivial)); (case aO => exact hO.out); (case aS => exact below_size hB.out); (case aL => omega); intro v455 w10 ho hb hg hat; have HO := Aside0.mk ho; have HB8 := Aside0.mk hb; clear ho hb hg hat)
     go_roundw
     case rel => exact ⟨k + 1, by omega, by simp, ⟨by rw [HN.out, HX.out]; exact HO.out⟩, HB8⟩
     case measure => simp [intOf]; omega
    ·
     obtain rfl : k = gv.length := by omega
     have HO : Aside0 (Kd.R (Kd.int .u8) 5 wr w7.heap.size (fun _ => True) u8 (gv.map fun x => 3 - x)) := ⟨by have := hO.out; rw [List.take_length] at this; exact this⟩
     clear hO
     go_wp2
     go_ret2
     exact ⟨_, rfl, Kd.R_lower HO.out HB7.out.size, HB7.out.trans (hB.out.mono HB7.out.size)⟩
end Go.Proofs.Ytmnamkcjldaoeaa.PAll
namespace Go.Proofs.Ytmnamkcjldaoeaa.PAll
open Go.RowKit Go.Proofs.YtmnamkcjldaoeaaW.PrintWords Go.Proofs.YtmnamkcjldaoeaaW.PrintLast Go.Proofs.YtmnamkcjldaoeaaW.PrintMore
set_option linter.unusedVariables false
set_option linter.unusedSimpArgs false
set_option linter.unusedSectionVars false
theorem teamed_ev (a : Int) (l : List S70) (t : Int) : Ev (fun _ => kingpinlaw08_teamed.f a l t) (askF a (l.map toG) t) := by
 refine Ev.congr (f := fun _ => some (askF a (l.map toG) t)) (fun k => ?_) (Ev.now _)
 unfold kingpinlaw08_teamed.f kingpinlaw08_fault.f kingpinref08_Fault.f askF
 simp only [Option.bind_some]
 by_cases h : checkF a (l.map toG) = 0
 ·
  obtain ⟨_, n2, n6, _⟩ := check_ok h
  rw [if_pos h, if_pos h, In_eq, IntWalk.wrap64_in (a - 1) ⟨by omega, by omega⟩, Option.bind_some]
  by_cases h2 : 0 ≤ t ∧ t < a
  ·
   rw [if_pos h2, decide_eq_true h2.1, decide_eq_true (by omega)]
   rfl
  ·
   rw [if_neg h2, if_neg (fun hh => h2 (by
    rw [Bool.and_eq_true, decide_eq_true_eq, decide_eq_true_eq] at hh
    exact ⟨hh.1, by omega⟩))]
 ·
  rw [if_neg h, if_neg h]
end Go.Proofs.Ytmnamkcjldaoeaa.PAll
namespace Go.Proofs.Ytmnamkcjldaoeaa.PAll
open Go.RowKit Go.Proofs.YtmnamkcjldaoeaaW.PrintWords Go.Proofs.YtmnamkcjldaoeaaW.PrintLast Go.Proofs.YtmnamkcjldaoeaaW.PrintMore
set_option linter.unusedVariables false
set_option linter.unusedSimpArgs false
set_option linter.unusedSectionVars false
def allO : Nat → List Int → List (List Int)
 | 0, b => [b]
 | d + 1, b => allO d (b ++ [1]) ++ (allO d (b ++ [2]) ++ allO d (b ++ [3]))
theorem allO_len : ∀ (d : Nat) (b : List Int), d ≤ 6 → (allO d b).length = 3 ^ d ∧ 3 ^ d ≤ 729
 | 0, b, _ => by simp [allO]
 | d + 1, b, h => by
  have h1 := allO_len d (b ++ [1]) (by omega)
  have h2 := allO_len d (b ++ [2]) (by omega)
  have h3 := allO_len d (b ++ [3]) (by omega)
  simp only [allO, List.length_append, h1.1, h2.1, h3.1]
  refine ⟨by rw [Nat.pow_succ]; omega, ?_⟩
  have : d = 0 ∨ d = 1 ∨ d = 2 ∨ d = 3 ∨ d = 4 ∨ d = 5 := by omega
  rcases this with rfl | rfl | rfl | rfl | rfl | rfl <;> decide
theorem allO_mem : ∀ (d : Nat) (b : List Int), (∀ o ∈ b, 1 ≤ o ∧ o ≤ 3) → ∀ os ∈ allO d b, os.length = b.length + d ∧ ∀ o ∈ os, 1 ≤ o ∧ o ≤ 3
 | 0, b, hb, os, h => by
  simp only [allO, List.mem_singleton] at h
  subst h
  exact ⟨rfl, hb⟩
 | d + 1, b, hb, os, h => by
  have hs : ∀ x : Int, 1 ≤ x → x ≤ 3 → os ∈ allO d (b ++ [x]) → os.length = b.length + (d + 1) ∧ ∀ o ∈ os, 1 ≤ o ∧ o ≤ 3 := by
   intro x x1 x3 hx
   have := allO_mem d (b ++ [x]) (fun o ho => by
    rcases List.mem_append.1 ho with ho | ho
    ·
     exact hb o ho
    ·
     rw [List.mem_singleton] at ho
     omega) os hx
   refine ⟨?_, this.2⟩
   have h1 := this.1
   simp only [List.length_append, List.length_singleton] at h1
   omega
  simp only [allO, List.mem_append] at h
  rcases h with h | h | h
  ·
   exact hs 1 (by decide) (by decide) h
  ·
   exact hs 2 (by decide) (by decide) h
  ·
   exact hs 3 (by decide) (by decide) h
theorem allO_all : ∀ (os b : List Int), (∀ o ∈ os, 1 ≤ o ∧ o ≤ 3) → b ++ os ∈ allO os.length b
 | [], b, _ => by simp [allO]
 | o :: os, b, h => by
  have ih := allO_all os (b ++ [o]) (fun x hx => h x (List.mem_cons_of_mem _ hx))
  have ho := h o List.mem_cons_self
  rw [List.append_assoc, List.singleton_append] at ih
  rw [List.length_cons]
  simp only [allO, List.mem_append]
  have : o = 1 ∨ o = 2 ∨ o = 3 := by omega
  rcases this with rfl | rfl | rfl
  ·
   exact .inl ih
  ·
   exact .inr (.inl ih)
  ·
   exact .inr (.inr ih)
theorem Outcomes_ev (m : Nat) (hm : m ≤ 6) : ∀ (d : Nat) (b : List Int), b.length + d = m → Ev (fun k => kingpinref08_Outcomes.f k (m : Int) b) (allO d b)
 | 0, b, h => by
  refine Ev.step (f := fun _ => some [b]) (fun k => ?_) (Ev.now _)
  simp only [kingpinref08_Outcomes.f]
  rw [if_pos (by omega)]
 | d + 1, b, h => by
  have hrec := fun x => Outcomes_ev m hm d (b ++ [x]) (by simp; omega)
  have hl := fun x => allO_len d (b ++ [x]) (by omega)
  have one : ∀ (x : Int) (acc : List (List Int)) (R : List (List Int)), x ≤ 3 → acc.length ≤ 2000 → Ev (fun k => kingpinref08_Outcomes.l0 k (m : Int) b (acc ++ allO d (b ++ [x])) ((x + 1) % 256)) R → Ev (fun k => kingpinref08_Outcomes.l0 k (m : Int) b acc x) R := by
   intro x acc R hx ha H
   have h1 := hl x
   refine Ev.step (f := fun k => (kingpinref08_Outcomes.f k (m : Int) (b ++ [x])).bind fun t712 => (if acc.length + t712.length < 5864062014805 then (kingpinref08_Outcomes.l0 k (m : Int) b (acc ++ t712) ((x + 1) % 256)) else (none))) (fun k => ?_) (Ev.bind (hrec x) ?_)
   ·
    simp only [kingpinref08_Outcomes.l0]
    rw [if_pos hx]
    simp only [Option.bind_some, List.length_nil, List.nil_append, if_pos (show 0 + b.length < 140737488355328 by omega), if_pos (show b.length < 140737488355328 by omega)]
   ·
    simp only [if_pos (show acc.length + (allO d (b ++ [x])).length < 5864062014805 by omega)]
    exact H
  refine Ev.step (f := fun k => kingpinref08_Outcomes.l0 k (m : Int) b [] 1) (fun k => ?_) ?_
  ·
   simp only [kingpinref08_Outcomes.f]
   rw [if_neg (by omega)]
  ·
   refine one 1 [] _ (by decide) (by simp) (one 2 _ _ (by decide) ?_ (one 3 _ _ (by decide) ?_ ?_))
   ·
    have := hl 1
    simp only [List.nil_append]
    omega
   ·
    have h1 := hl 1
    have h2 := hl 2
    simp only [List.nil_append, List.length_append]
    omega
   ·
    refine Ev.step (f := fun _ => some (allO (d + 1) b)) (fun k => ?_) (Ev.now _)
    show kingpinref08_Outcomes.l0 (k + 1) (m : Int) b _ 4 = _
    simp only [kingpinref08_Outcomes.l0]
    rw [if_neg (by decide)]
    simp [allO]
theorem dropL11 (gs : List (List Int)) (i : Nat) (h : i < gs.length) : gs.drop i = rd_L11 gs (i : Int) :: gs.drop (i + 1) := by
 rw [List.drop_eq_getElem_cons h]
 congr 1
 unfold rd_L11
 rw [Int.toNat_natCast, List.getD_eq_getElem?_getD, List.getElem?_eq_getElem h, Option.getD_some]
def worst (team t : Int) (g : S85) : Int := if g.f0 = team then 3 else if g.f1 = team then 1 else if g.f0 = t then 1 else 3
theorem worst_team (team t : Int) (h0 : 0 ≤ team) : ∀ (op : List S85), (∀ g ∈ op, g.f0 ≠ g.f1) → sumTo (outT op (op.map (worst team t))) team.toNat = 0
 | [], _ => rfl
 | g :: op, h => by
  have hg := h g List.mem_cons_self
  rw [List.map_cons, outT_cons, sumTo_cons, give_to g _ team h0, worst_team team t h0 op (fun x hx => h x (List.mem_cons_of_mem _ hx))]
  unfold worst
  by_cases c0 : g.f0 = team
  ·
   rw [if_pos c0, if_pos c0, if_neg (fun c1 => hg (c0.trans c1.symm))]
   decide
  ·
   rw [if_neg c0, if_neg c0]
   by_cases c1 : g.f1 = team
   ·
    rw [if_pos c1, if_pos c1]
    decide
   ·
    rw [if_neg c1]
    decide
theorem worst_other (team t : Int) (h0 : 0 ≤ t) (hne : t ≠ team) : ∀ (op : List S85), (∀ g ∈ op, g.f0 ≠ g.f1) → sumTo (outT op (op.map (worst team t))) t.toNat = openWith op t
 | [], _ => rfl
 | g :: op, h => by
  have hg := h g List.mem_cons_self
  have e : openWith (g :: op) t = (if g.f0 = t ∨ g.f1 = t then 2 else 0) + openWith op t := by
   unfold openWith
   rw [List.map_cons, List.sum_cons]
  rw [List.map_cons, outT_cons, sumTo_cons, give_to g _ t h0, worst_other team t h0 hne op (fun x hx => h x (List.mem_cons_of_mem _ hx)), e]
  unfold worst
  by_cases c0 : g.f0 = t
  ·
   have n0 : ¬ g.f0 = team := fun h => hne (c0.symm.trans h)
   have n1 : ¬ g.f1 = t := fun h => hg (c0.trans h.symm)
   rw [if_pos c0, if_neg n1, if_pos (Or.inl c0), if_neg n0]
   by_cases c1 : g.f1 = team
   ·
    rw [if_pos c1]
    omega
   ·
    rw [if_neg c1, if_pos c0]
    omega
  ·
   rw [if_neg c0]
   by_cases c1 : g.f1 = t
   ·
    have n1 : ¬ g.f1 = team := fun h => hne (c1.symm.trans h)
    rw [if_pos c1, if_pos (Or.inr c1)]
    by_cases c2 : g.f0 = team
    ·
     rw [if_pos c2]
     omega
    ·
     rw [if_neg c2, if_neg n1, if_neg c0]
     omega
   ·
    rw [if_neg c1, if_neg (fun h => h.elim c0 c1)]
    omega
theorem worst_rng (team t : Int) (op : List S85) : ∀ o ∈ op.map (worst team t), 1 ≤ o ∧ o ≤ 3 := by
 intro o ho
 obtain ⟨g, _, rfl⟩ := List.mem_map.1 ho
 unfold worst
 split
 ·
  omega
 ·
  split
  ·
   omega
  ·
   split <;> omega
section
variable {n : Int} {l : List S85} (hc : checkF n l = 0)
include hc
theorem not_surely (team : Int) (h0 : 0 ≤ team) (hn : team < n) (hs : (surelyF n l team).1 = false) : ∃ os : List Int, os.length = (openG l).length ∧ (∀ o ∈ os, 1 ≤ o ∧ o ≤ 3) ∧ ∃ u : Int, 0 ≤ u ∧ u < n ∧ ptsT l os team < ptsT l os u := by
 unfold surelyF at hs
 rw [if_pos (can_eq hc h0 hn)] at hs
 have hq := surelyB_iff l team ((sumsF l).getD team.toNat 0) n.toNat 0
 by_cases hx : ∃ u : Nat, u < n.toNat ∧ (u : Int) ≠ team ∧ (sumsF l).getD team.toNat 0 < reachF l u
 ·
  obtain ⟨u, hu, hne, hlt⟩ := hx
  have hol : ((openG l).map (worst team u)).length = (openG l).length := List.length_map _
  have hg : ∀ g ∈ openG l, g.f0 ≠ g.f1 := fun g hg => (open_ok hc hg).2.2
  refine ⟨(openG l).map (worst team u), hol, worst_rng team u _, u, by omega, by omega, ?_⟩
  rw [ptsT_eq hc hol, ptsT_eq hc hol, worst_team team u h0 _ hg, worst_other team u (by omega) hne _ hg, ← reach_eq hc]
  omega
 ·
  exfalso
  have := hq.2 (fun u _ hu hne => by
   rcases Int.lt_or_le ((sumsF l).getD team.toNat 0) (reachF l u) with h | h
   ·
    exact absurd ⟨u, by omega, hne, h⟩ hx
   ·
    exact h)
  have hs2 : surelyB l team ((sumsF l).getD team.toNat 0) n.toNat 0 = false := hs
  rw [hs2] at this
  cases this
end
theorem firsts_facts (a : Int) (l : List S85) (t : Int) (h0 : askF a l t = 0) (m : Nat) (hmm : (openG l).length = m) (cc : Bool) (e1 : Int) (ss : Bool) (e2 : Int) (os : List Int) (e3 : Int)
  (hcan : canF a l t = (cc, e1)) (hsur : surelyF a l t = (ss, e2)) (hsho : showsF a l t = (os, e3)) :
  e1 = 0 ∧ e2 = 0 ∧ cc = (allO m []).any (fun os => firstB (pts a l os) t) ∧ ss = (allO m []).all (fun os => firstB (pts a l os) t) ∧
   (cc = true → e3 = 0 ∧ os.length = m ∧ (∀ o ∈ os, 1 ≤ o ∧ o ≤ 3) ∧ firstB (pts a l os) t = true) ∧ (cc = false → os = [] ∧ e3 = 9) := by
 obtain ⟨hc, t0, tn⟩ := ask_ok h0
 obtain ⟨h20, n2, n6, hok⟩ := check_ok hc
 have hcf := can_first hc t t0 tn
 have hs2 := surely_ok hc t t0 tn
 rw [hcan, hsho] at hcf
 rw [hsur] at hs2
 dsimp only at hcf hs2
 subst hs2
 have he1 : e1 = 0 := by
  rcases hcf with h | h
  ·
   exact h.2.1
  ·
   exact h.2.1
 subst he1
 have hall := fun os (h : os ∈ allO m []) => allO_mem m [] (by simp) os h
 have hcan2 : ∀ os ∈ allO m [], firstB (pts a l os) t = true → cc = true := by
  intro os ho hf
  obtain ⟨h1, h2⟩ := hall os ho
  have h1 : os.length = (openG l).length := by rw [hmm, h1]; simp
  have := first_can hc t t0 tn h1 h2 ((first_iff hc h1 h2 t).1 hf)
  rw [hcan] at this
  exact this
 have hsur2 : ss = true → ∀ os ∈ allO m [], firstB (pts a l os) t = true := by
  intro hs os ho
  obtain ⟨h1, h2⟩ := hall os ho
  have h1 : os.length = (openG l).length := by rw [hmm, h1]; simp
  exact (first_iff hc h1 h2 t).2 (surely_first hc t t0 tn (by rw [hsur]; exact hs) h1 h2)
 refine ⟨rfl, rfl, ?_, ?_, fun h => ?_, fun h => ?_⟩
 ·
  cases cc with
  | true =>
   symm
   rw [List.any_eq_true]
   rcases hcf with ⟨_, _, _, h1, h2, h3⟩ | h
   ·
    refine ⟨os, ?_, (first_iff hc h1 h2 t).2 (fun u u0 un => h3 u u0 (by omega))⟩
    have := allO_all os [] h2
    rw [h1, hmm, List.nil_append] at this
    exact this
   ·
    exact absurd h.1 (by decide)
  | false =>
   symm
   rw [List.any_eq_false]
   intro x hx hf
   exact absurd (hcan2 x hx hf) Bool.false_ne_true
 ·
  cases ss with
  | true =>
   symm
   rw [List.all_eq_true]
   exact hsur2 rfl
  | false =>
   symm
   rw [Bool.eq_false_iff]
   intro hall2
   rw [List.all_eq_true] at hall2
   obtain ⟨ws, w1, w2, u, u0, un, hlt⟩ := not_surely hc t t0 tn (by rw [hsur])
   have hmem := allO_all ws [] w2
   rw [w1, hmm, List.nil_append] at hmem
   have := (first_iff hc w1 w2 t).1 (hall2 ws hmem) u u0 un
   omega
 ·
  subst h
  rcases hcf with ⟨_, _, h1, h2, h3, h4⟩ | h
  ·
   exact ⟨h1, by rw [h2, hmm], h3, (first_iff hc h2 h3 t).2 (fun u u0 un => h4 u u0 (by omega))⟩
  ·
   exact absurd h.1 (by decide)
 ·
  subst h
  rcases hcf with h | ⟨_, _, h1, _⟩
  ·
   exact absurd h.1 (by decide)
  ·
   injection h1 with h1 h2
   exact ⟨h1, h2⟩
end Go.Proofs.Ytmnamkcjldaoeaa.PAll
namespace Go.Proofs.Ytmnamkcjldaoeaa.PAll
open Go.RowKit Go.Proofs.YtmnamkcjldaoeaaW.PrintWords Go.Proofs.YtmnamkcjldaoeaaW.PrintLast Go.Proofs.YtmnamkcjldaoeaaW.PrintMore
set_option linter.unusedVariables false
set_option linter.unusedSimpArgs false
theorem shows_calls' (a : Int) (A : Option Addr) (c : Nat) (l : List S85) (t : Int) (w : World) (hr : Kd.C k85 w A l.length l) (hc : l.length ≤ c) (r1 : List Int) (r2 : Int) (h : showsF a l t = (r1, r2)) :
  Calls Try.prog 47 #[.agg #[.int .i64 a, .slice A l.length c], .int .i64 t] w fun e w' => ∃ Ao co, e = .returned (.tuple #[.slice Ao r1.length co, .int .i64 r2]) ∧ Kd.C (Kd.int .u8) w' Ao r1.length r1 ∧ r1.length ≤ co ∧ Below w.heap.size w w' := by
 refine (league_Shows.calls a A c l t r1 r2 w hr hc (congrArg some h)).mono ?_
 rintro e w' ⟨v, rfl, hR, hb⟩
 obtain ⟨Ao, co, rfl⟩ := Kd.R_slice hR
 exact ⟨Ao, co, rfl, (Kd.R_reads' hR).2.2, (Kd.R_reads' hR).2.1, hb⟩
def someF (a : Int) (L : List S85) (t : Int) (Q : List (List Int)) : Bool := Q.any fun os => firstB (pts a L os) t
def everyF (a : Int) (L : List S85) (t : Int) (Q : List (List Int)) : Bool := Q.all fun os => firstB (pts a L os) t
theorem outcomes_calls' (m : Nat) (hm : m ≤ 6) (w : World) : Calls Try.prog 48 #[.int .i64 (m : Int), .slice none 0 0] w fun e w' => ∃ A c, e = .returned (.slice A (allO m []).length c) ∧ Kd.C (Kd.slice 5 (Kd.int .u8)) w' A (allO m []).length (allO m []) ∧ Below w.heap.size w w' := by
 obtain ⟨k, hk⟩ := (Outcomes_ev m hm m [] (by simp)).rounds
 refine (kingpinref08_Outcomes.calls k (m : Int) (fun _ => True) none 0 [] (allO m []) w (Kd.V_nil _ _ _ _ _) hk).mono ?_
 rintro e w' ⟨v, rfl, hN, hb⟩
 obtain ⟨A, c, rfl, _, hC⟩ := Kd.N_reads hN
 exact ⟨A, c, rfl, hC, hb⟩
theorem after_calls' (a : Int) (A : Option Addr) (c : Nat) (l : List S70) (L : List S85) (hL : l.map toG = L) (w : World) (hr : Kd.C k70 w A l.length l) (hc : l.length ≤ c) (hck : checkF a L = 0) (os : List Int) (ho : os.length = (openG L).length) (hos : ∀ o ∈ os, 1 ≤ o ∧ o ≤ 3) (A1 : Option Addr) (c1 : Nat) (hr1 : Kd.C (Kd.int .u8) w A1 os.length os) (hc1 : os.length ≤ c1) :
  Calls Try.prog 27 #[.agg #[.int .i64 a, .slice A l.length c], .slice A1 os.length c1] w fun e w' => ∃ A' c', e = .returned (.slice A' (pts a L os).length c') ∧ Kd.C (Kd.int .i64) w' A' (pts a L os).length (pts a L os) ∧ (pts a L os).length ≤ c' ∧ Below w.heap.size w w' := by
 subst hL
 obtain ⟨k, hk⟩ := (RAfter_ev a l os hck ho hos).rounds
 refine (kingpinref08_After.calls k a A c l A1 c1 os _ w hr hc hr1 hc1 hk).mono ?_
 rintro e w' ⟨v, rfl, hR, hb⟩
 obtain ⟨A', c', rfl⟩ := Kd.R_slice hR
 exact ⟨A', c', rfl, (Kd.R_reads' hR).2.2, (Kd.R_reads' hR).2.1, hb⟩
theorem first_calls' (p : List Int) (t : Int) (h0 : 0 ≤ t) (ht : t < p.length) (hp : p.length ≤ 1000) (A : Option Addr) (c : Nat) (w : World) (hr : Kd.C (Kd.int .i64) w A p.length p) (hc : p.length ≤ c) (b : Bool) (hb : firstB p t = b) :
  Calls Try.prog 45 #[.slice A p.length c, .int .i64 t] w fun e w' => e = .returned (.bool b) ∧ Below w.heap.size w w' := by
 obtain ⟨k, hk⟩ := (First_ev p t h0 ht hp).rounds
 rw [hb] at hk
 exact (kingpinref08_First.calls k A c p t b w hr hc hk).mono fun e w' ⟨he, hd⟩ => ⟨he, hd.below⟩
theorem listed_calls' (os : List Int) (hos : ∀ o ∈ os, 1 ≤ o ∧ o ≤ 3) (hl : os.length ≤ 1000) (A : Option Addr) (c : Nat) (w : World) (hr : Kd.C (Kd.int .u8) w A os.length os) (hc : os.length ≤ c) :
  Calls Try.prog 22 #[.slice A os.length c, .int .u8 3] w fun e w' => e = .returned (.bool true) ∧ Below w.heap.size w w' := by
 obtain ⟨k, hk⟩ := (listed_ev os 3 (by omega)).rounds
 have h : (os.all fun x => decide (1 ≤ x) && decide (x ≤ 3)) = true := by
  rw [List.all_eq_true]
  intro x hx
  have := hos x hx
  rw [decide_eq_true this.1, decide_eq_true this.2]
  rfl
 rw [h] at hk
 exact (kingpinlaw08_listed.calls k A c os 3 true w hr hc hk).mono fun e w' ⟨he, hd⟩ => ⟨he, hd.below⟩
set_option maxRecDepth 100000 in
set_option maxHeartbeats 4000000 in
theorem firsts_calls (a : Int) (A : Option Addr) (c : Nat) (l : List S70) (t : Int) (w : World) (hr : Kd.C k70 w A l.length l) (hc : l.length ≤ c) :
  Calls Try.prog 12 #[.agg #[.int .i64 a, .slice A l.length c], .int .i64 t] w fun e w' => e = .returned (.bool true) ∧ Below w.heap.size w w' := by
 have HR := Aside0.mk hr
 have HC := Aside0.mk hc
 have hm : l.length ≤ 9223372036854775807 := hr.2.1
 clear hr hc
 have HB := Aside0.mk (below_alloc (Below.refl w.heap.size w) (.cells #[.int .i64 a, .slice A l.length c] 24))
 have HG : Aside0 ((w.alloc (.cells #[.int .i64 a, .slice A l.length c] 24)).heap[w.heap.size]? = some (.cells #[.int .i64 a, .slice A l.length c] 24 (0, 0))) := ⟨blk_new _ _⟩
 obtain ⟨L, hL⟩ : ∃ L, l.map toG = L := ⟨_, rfl⟩
 obtain ⟨m, hmm⟩ : ∃ m, (openG (l.map toG)).length = m := ⟨_, rfl⟩
 have HLL := Lib.hid hL
 have HMM := Lib.hid hmm
 obtain ⟨thin, hthin⟩ : ∃ b, decide ((l.length : Int) ≤ 24) = b := ⟨_, rfl⟩
 obtain ⟨v, hv⟩ : ∃ v, checkF a L = v := ⟨_, rfl⟩
 have HTH : Hid (kingpinlaw08_Thin.f a l = some thin) := by
  show kingpinlaw08_Thin.f a l = some thin
  rw [← hthin]
  rfl
 have HFA : Hid (kingpinlaw08_fault.f a l = some v) := by
  show kingpinlaw08_fault.f a l = some v
  rw [← hv, ← hL]
  rfl
 cases thin with
 | false =>
  go_enter Try.func12, Try.ntmps12
  go_wp2_with (first
   | (go_at_call 15; (with_reducible refine (kingpinlaw08_Thin.calls a _ _ l false _ ?hr HC.out HTH.out).mono ?_); (case hr => exact Kd.C_below HR.out HB.out); rintro e w1 ⟨rfl, hb1⟩; have HB1 := Aside0.mk (below_step HB.out hb1); clear hb1)
   | (go_at_call 16; (with_reducible refine (awake_calls' _).mono ?_); rintro e w2 ⟨rfl, hb2⟩; have HB2 := Aside0.mk (below_step HB1.out hb2); clear hb2))
  go_ret
  exact ⟨rfl, HB2.out⟩
 | true =>
  have h24 : l.length ≤ 24 := by have := of_decide_eq_true hthin; omega
  have HL := Lib.hid (show l.length ≤ 1000 by omega)
  clear hthin hm
  by_cases hearly : v = 0 ∧ 6 < m
  ·
   have bv : (v == 0) = true := beq_iff_eq.2 hearly.1
   have bo : decide ((m : Int) > 6) = true := decide_eq_true (by omega)
   clear hearly
   go_enter Try.func12, Try.ntmps12
   go_wp2_with (first
    | (go_at_call 15; (with_reducible refine (kingpinlaw08_Thin.calls a _ _ l true _ ?hr HC.out HTH.out).mono ?_); (case hr => exact Kd.C_below HR.out HB.out); rintro e w1 ⟨rfl, hb1⟩; have n0_ := Aside0.mk (blk_below HG.out hb1); have n1_ := Aside0.mk (below_step HB.out hb1); clear HG HB; (try clear g0 g1); have HG := n0_; have HB := n1_; clear n0_ n1_; have g0 : w1.cell? ⟨w.heap.size, 0, none⟩ = some (.int .i64 a) := (blk_cell HG.out 0).trans rfl; have g1 : w1.cell? ⟨w.heap.size, 1, none⟩ = some (.slice A l.length c) := (blk_cell HG.out 1).trans rfl; clear hb1)
    | (go_at_call 21; (with_reducible refine (kingpinlaw08_fault.calls a _ _ l v _ ?hr HC.out HFA.out).mono ?_); (case hr => exact Kd.C_below HR.out HB.out); rintro e w1 ⟨rfl, hb1⟩; have n0_ := Aside0.mk (blk_below HG.out hb1); have n1_ := Aside0.mk (below_step HB.out hb1); clear HG HB; (try clear g0 g1); have HG := n0_; have HB := n1_; clear n0_ n1_; have g0 : w1.cell? ⟨w.heap.size, 0, none⟩ = some (.int .i64 a) := (blk_cell HG.out 0).trans rfl; have g1 : w1.cell? ⟨w.heap.size, 1, none⟩ = some (.slice A l.length c) := (blk_cell HG.out 1).trans rfl; clear hb1)
    | (go_at_call 26; (with_reducible refine (open_calls' a _ _ l m HMM.out _ HL.out ?hr HC.out).mono ?_); (case hr => exact Kd.C_below HR.out HB.out); rintro e w1 ⟨rfl, hb1⟩; have n0_ := Aside0.mk (blk_below HG.out hb1); have n1_ := Aside0.mk (below_step HB.out hb1); clear HG HB; (try clear g0 g1); have HG := n0_; have HB := n1_; clear n0_ n1_; have g0 : w1.cell? ⟨w.heap.size, 0, none⟩ = some (.int .i64 a) := (blk_cell HG.out 0).trans rfl; have g1 : w1.cell? ⟨w.heap.size, 1, none⟩ = some (.slice A l.length c) := (blk_cell HG.out 1).trans rfl; clear hb1)
    | (go_at_call 16; (with_reducible refine (awake_calls' _).mono ?_); rintro e w1 ⟨rfl, hb1⟩; have n0_ := Aside0.mk (blk_below HG.out hb1); have n1_ := Aside0.mk (below_step HB.out hb1); clear HG HB; (try clear g0 g1); have HG := n0_; have HB := n1_; clear n0_ n1_; have g0 : w1.cell? ⟨w.heap.size, 0, none⟩ = some (.int .i64 a) := (blk_cell HG.out 0).trans rfl; have g1 : w1.cell? ⟨w.heap.size, 1, none⟩ = some (.slice A l.length c) := (blk_cell HG.out 1).trans rfl; clear hb1))
   go_ret
   exact ⟨rfl, HB.out⟩
  ·
   have HE := Lib.hid hearly
   obtain ⟨bv, hbv⟩ : ∃ b, (v == 0) = b := ⟨_, rfl⟩
   obtain ⟨bo, hbo⟩ : ∃ b, decide ((m : Int) > 6) = b := ⟨_, rfl⟩
   have hboth : bv = false ∨ bv = true ∧ bo = false := by
    cases bv with
    | false => exact .inl rfl
    | true =>
     refine .inr ⟨rfl, ?_⟩
     rw [← hbo]
     refine decide_eq_false (fun h => hearly ⟨beq_iff_eq.1 hbv, by omega⟩)
   clear hearly
   obtain ⟨⟨cc, e1⟩, hcan⟩ : ∃ x, canF a L t = x := ⟨_, rfl⟩
   obtain ⟨⟨ss, e2⟩, hsur⟩ : ∃ x, surelyF a L t = x := ⟨_, rfl⟩
   obtain ⟨⟨os, e3⟩, hsho⟩ : ∃ x, showsF a L t = x := ⟨_, rfl⟩
   have HCAN := Lib.hid hcan
   have HSUR := Lib.hid hsur
   have HSHO := Lib.hid hsho
   have HV := Lib.hid hv
   obtain ⟨q, hq⟩ : ∃ q, askF a L t = q := ⟨_, rfl⟩
   have HTE : Hid (kingpinlaw08_teamed.f a l t = some q) := by
    have := (teamed_ev a l t).rounds
    rw [hL, hq] at this
    obtain ⟨_, this⟩ := this
    exact this
   have HQ := Lib.hid hq
   clear hcan hsur hsho hq hv hL hmm
   go_enter Try.func12, Try.ntmps12
   go_upto_region 1 with fail
   go_cut [29] (fun v29 wc => v29 = .bool false ∧ Aside0 (Below w.heap.size w wc) ∧ Aside0 (wc.heap[w.heap.size]? = some (.cells #[.int .i64 a, .slice A l.length c] 24 (0, 0))))
   case first =>
    rcases hboth with rfl | ⟨rfl, rfl⟩
    all_goals
     go_wp2_with (first
      | (go_at_call 15; (with_reducible refine (kingpinlaw08_Thin.calls a _ _ l true _ ?hr HC.out HTH.out).mono ?_); (case hr => exact Kd.C_below HR.out HB.out); rintro e w1 ⟨rfl, hb1⟩; have n0_ := Aside0.mk (blk_below HG.out hb1); have n1_ := Aside0.mk (below_step HB.out hb1); clear HG HB; (try clear g0 g1); have HG := n0_; have HB := n1_; clear n0_ n1_; have g0 : w1.cell? ⟨w.heap.size, 0, none⟩ = some (.int .i64 a) := (blk_cell HG.out 0).trans rfl; have g1 : w1.cell? ⟨w.heap.size, 1, none⟩ = some (.slice A l.length c) := (blk_cell HG.out 1).trans rfl; clear hb1)
      | (go_at_call 21; (with_reducible refine (kingpinlaw08_fault.calls a _ _ l v _ ?hr HC.out HFA.out).mono ?_); (case hr => exact Kd.C_below HR.out HB.out); rintro e w1 ⟨rfl, hb1⟩; have n0_ := Aside0.mk (blk_below HG.out hb1); have n1_ := Aside0.mk (below_step HB.out hb1); clear HG HB; (try clear g0 g1); have HG := n0_; have HB := n1_; clear n0_ n1_; have g0 : w1.cell? ⟨w.heap.size, 0, none⟩ = some (.int .i64 a) := (blk_cell HG.out 0).trans rfl; have g1 : w1.cell? ⟨w.heap.size, 1, none⟩ = some (.slice A l.length c) := (blk_cell HG.out 1).trans rfl; clear hb1)
      | (go_at_call 26; (with_reducible refine (open_calls' a _ _ l m HMM.out _ HL.out ?hr HC.out).mono ?_); (case hr => exact Kd.C_below HR.out HB.out); rintro e w1 ⟨rfl, hb1⟩; have n0_ := Aside0.mk (blk_below HG.out hb1); have n1_ := Aside0.mk (below_step HB.out hb1); clear HG HB; (try clear g0 g1); have HG := n0_; have HB := n1_; clear n0_ n1_; have g0 : w1.cell? ⟨w.heap.size, 0, none⟩ = some (.int .i64 a) := (blk_cell HG.out 0).trans rfl; have g1 : w1.cell? ⟨w.heap.size, 1, none⟩ = some (.slice A l.length c) := (blk_cell HG.out 1).trans rfl; clear hb1))
     go_meet
     exact ⟨rfl, HB, HG⟩
   case rest =>
    clear HB HG
    obtain ⟨rfl, HB, HG⟩ := hcut
    have g0 : wc.cell? ⟨w.heap.size, 0, none⟩ = some (.int .i64 a) := (blk_cell HG.out 0).trans rfl
    have g1 : wc.cell? ⟨w.heap.size, 1, none⟩ = some (.slice A l.length c) := (blk_cell HG.out 1).trans rfl
    go_upto_region 7 with (first
     | (go_at_call 18; (with_reducible refine (copy_calls a _ _ l L HLL.out _ HL.out ?hr HC.out).mono ?_); (case hr => exact Kd.C_below HR.out HB.out); rintro e w1 ⟨A1, c1, rfl, hR1, hc1, hb1⟩; have n0_ := Aside0.mk (blk_below HG.out hb1); have n1_ := Aside0.mk (below_step HB.out hb1); clear HG HB; (try clear g0 g1); have HG := n0_; have HB := n1_; clear n0_ n1_; have g0 : w1.cell? ⟨w.heap.size, 0, none⟩ = some (.int .i64 a) := (blk_cell HG.out 0).trans rfl; have g1 : w1.cell? ⟨w.heap.size, 1, none⟩ = some (.slice A l.length c) := (blk_cell HG.out 1).trans rfl; have HR1 := Aside0.mk hR1; have HC1 := Aside0.mk hc1; clear hb1 hR1 hc1)
     | (go_at_call 43; (with_reducible refine (can_calls' a _ _ _ t _ HR1.out HC1.out cc e1 HCAN.out).mono ?_); rintro e w1 ⟨rfl, hb1⟩; have n0_ := Aside0.mk (blk_below HG.out hb1); have n1_ := Aside0.mk (below_step HB.out hb1); clear HG HB; (try clear g0 g1); have HG := n0_; have HB := n1_; clear n0_ n1_; have g0 : w1.cell? ⟨w.heap.size, 0, none⟩ = some (.int .i64 a) := (blk_cell HG.out 0).trans rfl; have g1 : w1.cell? ⟨w.heap.size, 1, none⟩ = some (.slice A l.length c) := (blk_cell HG.out 1).trans rfl; clear hb1)
     | (go_at_call 44; (with_reducible refine (surely_calls' a _ _ _ t _ HR1.out HC1.out ss e2 HSUR.out).mono ?_); rintro e w1 ⟨rfl, hb1⟩; have n0_ := Aside0.mk (blk_below HG.out hb1); have n1_ := Aside0.mk (below_step HB.out hb1); clear HG HB; (try clear g0 g1); have HG := n0_; have HB := n1_; clear n0_ n1_; have g0 : w1.cell? ⟨w.heap.size, 0, none⟩ = some (.int .i64 a) := (blk_cell HG.out 0).trans rfl; have g1 : w1.cell? ⟨w.heap.size, 1, none⟩ = some (.slice A l.length c) := (blk_cell HG.out 1).trans rfl; clear hb1)
     | (go_at_call 47; (with_reducible refine (shows_calls' a _ _ _ t _ HR1.out HC1.out os e3 HSHO.out).mono ?_); rintro e w1 ⟨Ao, co, rfl, hRo, hco, hb1⟩; have HCO := Aside0.mk hco; have n0_ := Aside0.mk (blk_below HG.out hb1); have n1_ := Aside0.mk (below_step HB.out hb1); clear HG HB; (try clear g0 g1); have HG := n0_; have HB := n1_; clear n0_ n1_; have g0 : w1.cell? ⟨w.heap.size, 0, none⟩ = some (.int .i64 a) := (blk_cell HG.out 0).trans rfl; have g1 : w1.cell? ⟨w.heap.size, 1, none⟩ = some (.slice A l.length c) := (blk_cell HG.out 1).trans rfl; have HRO := Aside0.mk hRo; clear hb1 hRo hco)
     | (go_at_call 40; (with_reducible refine (kingpinlaw08_teamed.calls a _ _ l t q _ ?hr HC.out HTE.out).mono ?_); (case hr => exact Kd.C_below HR.out HB.out); rintro e w1 ⟨rfl, hb1⟩; have n2_ := Aside0.mk (Kd.C_below HRO.out hb1); clear HRO; have HRO := n2_; clear n2_; have n0_ := Aside0.mk (blk_below HG.out hb1); have n1_ := Aside0.mk (below_step HB.out hb1); clear HG HB; (try clear g0 g1); have HG := n0_; have HB := n1_; clear n0_ n1_; have g0 : w1.cell? ⟨w.heap.size, 0, none⟩ = some (.int .i64 a) := (blk_cell HG.out 0).trans rfl; have g1 : w1.cell? ⟨w.heap.size, 1, none⟩ = some (.slice A l.length c) := (blk_cell HG.out 1).trans rfl; clear hb1)
     | fail)
    by_cases hq0 : q = 0
    rotate_left
    ·
     obtain ⟨x1, x2, x3⟩ : (cc = false ∧ e1 = q) ∧ (ss = false ∧ e2 = q) ∧ (os = [] ∧ e3 = q) := by
      have q1 : canF a L t = (false, askF a L t) := if_neg (by rw [HQ.out]; exact hq0)
      have q2 : surelyF a L t = (false, askF a L t) := if_neg (by rw [HQ.out]; exact hq0)
      have q3 : showsF a L t = ([], askF a L t) := if_neg (by rw [HQ.out]; exact hq0)
      rw [HCAN.out, HQ.out] at q1
      rw [HSUR.out, HQ.out] at q2
      rw [HSHO.out, HQ.out] at q3
      injection q1 with q11 q12
      injection q2 with q21 q22
      injection q3 with q31 q32
      exact ⟨⟨q11, q12⟩, ⟨q21, q22⟩, ⟨q31, q32⟩⟩
     obtain ⟨rfl, rfl⟩ := x1
     obtain ⟨rfl, rfl⟩ := x2
     obtain ⟨rfl, rfl⟩ := x3
     have bq : (e3 != 0) = true := bne_iff_ne.2 hq0
     clear hq0
     go_wp2_with (go_at_call 16; (with_reducible refine (awake_calls' _).mono ?_); rintro e w1 ⟨rfl, hb1⟩; have n0_ := Aside0.mk (blk_below HG.out hb1); have n1_ := Aside0.mk (below_step HB.out hb1); clear HG HB; (try clear g0 g1); have HG := n0_; have HB := n1_; clear n0_ n1_; have g0 : w1.cell? ⟨w.heap.size, 0, none⟩ = some (.int .i64 a) := (blk_cell HG.out 0).trans rfl; have g1 : w1.cell? ⟨w.heap.size, 1, none⟩ = some (.slice A l.length c) := (blk_cell HG.out 1).trans rfl; clear hb1)
     go_ret
     exact ⟨rfl, HB.out⟩
    ·
     subst hq0
     obtain ⟨x1, x2, x3, x4, x5, x6⟩ := firsts_facts a L t HQ.out m (by have := HMM.out; rw [HLL.out] at this; exact this) cc e1 ss e2 os e3 HCAN.out HSUR.out HSHO.out
     subst x1 x2
     have hck := ask_ok HQ.out
     have HCK := Lib.hid hck.1
     have ht0 := hck.2.1
     have htn := hck.2.2
     have hn6 := (check_ok hck.1).2.2.1
     have hn2 := (check_ok hck.1).2.1
     have hm6 : m ≤ 6 := by
      have := HE.out
      rw [← HV.out, hck.1] at this
      omega
     have HX3 : Hid (cc = someF a L t (allO m [])) := x3
     have HX4 : Hid (ss = everyF a L t (allO m [])) := x4
     have HX5 := Lib.hid x5
     have HX6 := Lib.hid x6
     have HOM : Hid ((openG L).length = m) := by have := HMM.out; rw [HLL.out] at this; exact this
     clear x3 x4 x5 x6 hck hboth hbv hbo
     go_upto_region 10 with (first
      | (go_at_call 26; (with_reducible refine (open_calls' a _ _ l m HMM.out _ HL.out ?hr HC.out).mono ?_); (case hr => exact Kd.C_below HR.out HB.out); rintro e w1 ⟨rfl, hb1⟩; have n2_ := Aside0.mk (Kd.C_below HRO.out hb1); clear HRO; have HRO := n2_; clear n2_; have n0_ := Aside0.mk (blk_below HG.out hb1); have n1_ := Aside0.mk (below_step HB.out hb1); clear HG HB; (try clear g0 g1); have HG := n0_; have HB := n1_; clear n0_ n1_; have g0 : w1.cell? ⟨w.heap.size, 0, none⟩ = some (.int .i64 a) := (blk_cell HG.out 0).trans rfl; have g1 : w1.cell? ⟨w.heap.size, 1, none⟩ = some (.slice A l.length c) := (blk_cell HG.out 1).trans rfl; clear hb1)
      | (go_at_call 48; (with_reducible refine (outcomes_calls' m hm6 _).mono ?_); rintro e w1 ⟨Aa, ca, rfl, hRa, hb1⟩; have HRA := Aside0.mk hRa; have n2_ := Aside0.mk (Kd.C_below HRO.out hb1); clear HRO; have HRO := n2_; clear n2_; have n0_ := Aside0.mk (blk_below HG.out hb1); have n1_ := Aside0.mk (below_step HB.out hb1); clear HG HB; (try clear g0 g1); have HG := n0_; have HB := n1_; clear n0_ n1_; have g0 : w1.cell? ⟨w.heap.size, 0, none⟩ = some (.int .i64 a) := (blk_cell HG.out 0).trans rfl; have g1 : w1.cell? ⟨w.heap.size, 1, none⟩ = some (.slice A l.length c) := (blk_cell HG.out 1).trans rfl; clear hb1 hRa)
      | fail)
     obtain ⟨Q, hQ⟩ : ∃ Q, allO m [] = Q := ⟨_, rfl⟩
     have HQQ := Lib.hid hQ
     rw [hQ] at HRA
     have hql : Q.length ≤ 729 := by
      have := allO_len m [] hm6
      rw [hQ] at this
      omega
     have HMEM : Hid (∀ x ∈ Q, x.length = (openG L).length ∧ ∀ o ∈ x, 1 ≤ o ∧ o ≤ 3) := by
      intro x hx
      rw [← hQ] at hx
      have := allO_mem m [] (by simp) x hx
      rw [HOM.out]
      exact ⟨by simpa using this.1, this.2⟩
     rw [hQ] at HX3 HX4
     rw [hQ]
     clear hQ
     have HPL : Hid (∀ x, (pts a L x).length = a.toNat) := fun x => pts_len a L x
     go_wp2
     go_loopw [15, 13, 14] (fun v15 v13 v14 wr => ∃ (i : Nat) (x y : Bool), i ≤ Q.length ∧ v15 = .int .i64 i ∧ v13 = .bool x ∧ v14 = .bool y ∧ Aside0 ((x || someF a L t (Q.drop i)) = cc) ∧ Aside0 ((y && everyF a L t (Q.drop i)) = ss) ∧ Aside0 (Below w1.heap.size w1 wr)) (fun v15 _ _ _ => Q.length - (intOf v15).toNat)
     case atStart => exact ⟨0, false, true, Nat.zero_le _, rfl, rfl, rfl, ⟨by rw [List.drop_zero, Bool.false_or]; exact HX3.out.symm⟩, ⟨by rw [List.drop_zero, Bool.true_and]; exact HX4.out.symm⟩, ⟨Below.refl _ _⟩⟩
     case round =>
      obtain ⟨i, x, y, hi, rfl, rfl, rfl, hx, hy, hBr⟩ := hrel
      have HGr := Aside0.mk (blk_below HG.out hBr.out)
      have HBr := Aside0.mk (below_step HB.out hBr.out)
      have HROr := Aside0.mk (Kd.C_below HRO.out hBr.out)
      have k0 : wr.cell? ⟨w.heap.size, 0, none⟩ = some (.int .i64 a) := (blk_cell HGr.out 0).trans rfl
      have k1 : wr.cell? ⟨w.heap.size, 1, none⟩ = some (.slice A l.length c) := (blk_cell HGr.out 1).trans rfl
      clear g0 g1
      by_cases hlt : i < Q.length
      ·
       obtain ⟨ad, A0, c0, eA, hcell, hle, hCx⟩ := at_L11 (Kd.C_below HRA.out hBr.out) (i : Int) (by omega) (by omega)
       cases eA
       simp only [Int.toNat_natCast] at hcell
       have hd := dropL11 Q i hlt
       have hmem : rd_L11 Q (i : Int) ∈ Q := List.mem_of_mem_drop (i := i) (by rw [hd]; exact List.mem_cons_self)
       obtain ⟨os1, hos1⟩ : ∃ x, rd_L11 Q (i : Int) = x := ⟨_, rfl⟩
       rw [hos1] at hcell hle hCx hd hmem
       have HM1 := Lib.hid (HMEM.out os1 hmem)
       have HCX := Aside0.mk hCx
       have HLE := Aside0.mk hle
       obtain ⟨f, hf⟩ : ∃ f, firstB (pts a L os1) t = f := ⟨_, rfl⟩
       have HF := Lib.hid hf
       have HX' : Hid (((x || f) || someF a L t (Q.drop (i + 1))) = cc) := by
        have := hx.out
        rw [hd] at this
        unfold someF at this ⊢
        rw [List.any_cons, hf] at this
        rw [Bool.or_assoc]
        exact this
       have HY' : Hid (((y && f) && everyF a L t (Q.drop (i + 1))) = ss) := by
        have := hy.out
        rw [hd] at this
        unfold everyF at this ⊢
        rw [List.all_cons, hf] at this
        rw [Bool.and_assoc]
        exact this
       clear hCx hle hd hmem hos1 hf hx hy
       go_upto_region 14 with fail
       go_cut [16] (fun v16 wx => v16 = .bool f ∧ Aside0 (Below w1.heap.size w1 wx))
       case first =>
        go_region_with (first
         | (go_at_call 27; (with_reducible refine (after_calls' a _ _ l L HLL.out _ ?hr HC.out HCK.out os1 HM1.out.1 HM1.out.2 _ _ ?hr1 HLE.out).mono ?_); (case hr => repeat (first | exact Kd.C_below HR.out HBr.out | (with_reducible refine Kd.C_drewN ?_ _) | (with_reducible refine Kd.C_drew ?_))); (case hr1 => repeat (first | exact HCX.out | (with_reducible refine Kd.C_drewN ?_ _) | (with_reducible refine Kd.C_drew ?_))); rintro e w3 ⟨Ap, cp, rfl, hRp, hcp, hb3⟩; have HRP := Aside0.mk hRp; have HCP := Aside0.mk hcp; have HB3 := Aside0.mk (below_step (by repeat (first | (with_reducible exact hBr.out) | (with_reducible apply pw_below_drewN) | (with_reducible apply below_drew1))) hb3); clear hRp hcp hb3)
         | (go_at_call 45; (with_reducible refine (first_calls' _ t ht0 ?hl ?hp _ _ _ ?hr HCP.out f HF.out).mono ?_); (case hl => rw [HPL.out]; omega); (case hp => rw [HPL.out]; omega); (case hr => repeat (first | exact HRP.out | (with_reducible refine Kd.C_drewN ?_ _) | (with_reducible refine Kd.C_drew ?_))); rintro e w4 ⟨rfl, hb4⟩; have HB4 := Aside0.mk (below_step (by repeat (first | (with_reducible exact HB3.out) | (with_reducible apply pw_below_drewN) | (with_reducible apply below_drew1))) hb4); clear hb4)
         | fail)
        all_goals (go_wp2_with fail; go_meet)
        all_goals exact ⟨rfl, ⟨by repeat (first | (with_reducible exact HB4.out) | (with_reducible apply pw_below_drewN) | (with_reducible apply below_drew1))⟩⟩
       case rest =>
        obtain ⟨rfl, HBx⟩ := hcut
        clear k0 k1 hcell HCX HLE
        cases x <;> cases y
        all_goals
         go_wp2
         go_roundw
         case rel => exact ⟨i + 1, _, _, by omega, by simp, rfl, rfl, ⟨HX'.out⟩, ⟨HY'.out⟩, HBx⟩
         case measure => simp [intOf]; omega
      ·
       obtain rfl : i = Q.length := by omega
       have HXE : Hid (x = cc) := by
        have := hx.out
        rw [List.drop_length] at this
        unfold someF at this
        rw [List.any_nil, Bool.or_false] at this
        exact this
       have HYE : Hid (y = ss) := by
        have := hy.out
        rw [List.drop_length] at this
        unfold everyF at this
        rw [List.all_nil, Bool.and_true] at this
        exact this
       obtain rfl := HXE.out
       obtain rfl := HYE.out
       clear hx hy
       have bx : (x != x) = false := bne_self_eq_false x
       have by' : (y != y) = false := bne_self_eq_false y
       cases x with
       | false =>
        obtain ⟨rfl, rfl⟩ := HX6.out rfl
        go_wp2_with (go_at_call 16; (with_reducible refine (awake_calls' _).mono ?_); rintro e w3 ⟨rfl, hb3⟩; have HB3 := Aside0.mk (below_step HBr.out hb3); clear hb3)
        go_ret
        exact ⟨rfl, HB3.out⟩
       | true =>
        obtain ⟨rfl, p2, p3, p4⟩ := HX5.out rfl
        have HP2 := Lib.hid (p2.trans HOM.out.symm)
        have HP3 := Lib.hid p3
        have HP4 := Lib.hid p4
        have hos : os.length ≤ 1000 := by omega
        have bl : ((os.length : Int) == (m : Int)) = true := beq_iff_eq.2 (by omega)
        clear p2 p3 p4
        go_wp2_with (first
         | (go_at_call 26; (with_reducible refine (open_calls' a _ _ l m HMM.out _ HL.out ?hr HC.out).mono ?_); (case hr => exact Kd.C_below HR.out HBr.out); rintro e w3 ⟨rfl, hb3⟩; have HB3 := Aside0.mk hb3; have k0 : w3.cell? ⟨w.heap.size, 0, none⟩ = some (.int .i64 a) := (blk_cell (blk_below HGr.out hb3) 0).trans rfl; have k1 : w3.cell? ⟨w.heap.size, 1, none⟩ = some (.slice A l.length c) := (blk_cell (blk_below HGr.out hb3) 1).trans rfl; clear hb3)
         | (go_at_call 22; (with_reducible refine (listed_calls' os HP3.out hos _ _ _ ?hr HCO.out).mono ?_); (case hr => exact Kd.C_below HROr.out HB3.out); rintro e w4 ⟨rfl, hb4⟩; have HB4 := Aside0.mk (below_step HB3.out hb4); have k0 : w4.cell? ⟨w.heap.size, 0, none⟩ = some (.int .i64 a) := (blk_cell (blk_below HGr.out HB4.out) 0).trans rfl; have k1 : w4.cell? ⟨w.heap.size, 1, none⟩ = some (.slice A l.length c) := (blk_cell (blk_below HGr.out HB4.out) 1).trans rfl; clear hb4)
         | (go_at_call 27; (with_reducible refine (after_calls' a _ _ l L HLL.out _ ?hr HC.out HCK.out os HP2.out HP3.out _ _ ?hr1 HCO.out).mono ?_); (case hr => exact Kd.C_below (Kd.C_below HR.out HBr.out) HB4.out); (case hr1 => exact Kd.C_below HROr.out HB4.out); rintro e w5 ⟨Ap, cp, rfl, hRp, hcp, hb5⟩; have HRP := Aside0.mk hRp; have HCP := Aside0.mk hcp; have HB5 := Aside0.mk (below_step HB4.out hb5); clear hRp hcp hb5)
         | (go_at_call 45; (with_reducible refine (first_calls' _ t ht0 ?hl ?hp _ _ _ HRP.out HCP.out true HP4.out).mono ?_); (case hl => rw [HPL.out]; omega); (case hp => rw [HPL.out]; omega); rintro e w6 ⟨rfl, hb6⟩; have HB6 := Aside0.mk (below_step HB5.out hb6); clear hb6)
         | (go_at_call 16; (with_reducible refine (awake_calls' _).mono ?_); rintro e w7 ⟨rfl, hb7⟩; have HB7 := Aside0.mk (below_step HB6.out hb7); clear hb7))
        go_ret
        exact ⟨rfl, HBr.out.trans (HB7.out.mono HBr.out.size)⟩
end Go.Proofs.Ytmnamkcjldaoeaa.PAll
