/- Parts of the proof of leagueOrder_holds, in order: HRight, HPass0, HPass1, HShift, HFlow, HRuns0, HUneven, F31 -/
import Derived.Test.YtmnamkcjldaoeaaKOrder3
import Derived.Test.YtmnamkcjldaoeaaKOrder5
import Derived.Test.YtmnamkcjldaoeaaKOrder12
import Derived.Test.YtmnamkcjldaoeaaKOrder15
import Derived.Test.YtmnamkcjldaoeaaKOrder16
import Derived.Deep.RegionWith
import Derived.WideLaws
import Derived.Deep.DeepCutAuto
namespace Go.Proofs.Ytmnamkcjldaoeaa.PAll
open Go.RowKit Go.Proofs.YtmnamkcjldaoeaaW.PrintWords Go.Proofs.YtmnamkcjldaoeaaW.PrintLast Go.Proofs.YtmnamkcjldaoeaaW.PrintMore
set_option linter.unusedVariables false
set_option linter.unusedSimpArgs false
theorem store_exec {P : Program} {ρ : Operand → Value} {o : Oper} {t : TypeId} {p v : Operand} {ad : Addr} {val : Value} {w w1 : World} (ho : o.op = .store t p v) (hp : ρ p = .pointer (some ad)) (hv : ρ v = val) (h : (storeVar t ad val).run P w = .ok () w1) : (execOp ρ o).run P w = .ok .skip w1 := by
 unfold execOp
 simp only [ho, hp, hv, Instr.storeAt, Instr.sureAddr, Sem.run_bind, Sem.run_pure, Result.andThen_ok, h]
theorem load_exec {P : Program} {ρ : Operand → Value} {o : Oper} {t : TypeId} {p : Operand} {ad : Addr} {val : Value} {w : World} (ho : o.op = .load t p) (hp : ρ p = .pointer (some ad)) (h : (loadVar t ad).run P w = .ok val w) : (execOp ρ o).run P w = .ok (.value val) w := by
 unfold execOp
 simp only [ho, hp, Instr.loadAt, Instr.sureAddr, Sem.run_bind, Sem.run_pure, Result.andThen_ok, h]
theorem setRow_arr {w : World} {b t : Nat} {u u2 : List Int} (h : ArrAt w b t u) : ArrAt (w.setRow b (arrV u2)) b t u2 := by
 have hb := blk_lt h
 unfold ArrAt at h ⊢
 obtain ⟨h1, h2⟩ := Array.getElem?_eq_some_iff.1 h
 simp [World.setRow, Array.getElem?_modify, h]
theorem setRow_below {B : Nat} {w w1 : World} (h : Below B w w1) (b : Nat) (hb : B ≤ b) (cs : Array Value) : Below B w (w1.setRow b cs) :=
 ⟨h.os, h.tape, h.output, by simpa using h.size, fun i hi => (setRow_other w1 b i cs (by omega)).trans (h.block i hi)⟩
set_option maxRecDepth 100000 in
theorem res66 {tmps : Array Value} {w : World} {b : Nat} {u : List Int} {x : Bool} (hu : ArrAt w b 110 u) (hl : u.length = 18) (h4 : tmps.getD 4 undef = .pointer (some ⟨b, 0, none⟩)) (h5 : tmps.getD 5 undef = .bool x) :
  (results Try.f66 tmps).run Try.prog w = .ok (.tuple #[.agg (arrV u), .bool x]) w := by
 rw [results_cell_tmp (p := 4) (u := 5) (ty := 110) rfl, h4, h5]
 have hld : (loadVar 110 ⟨b, 0, none⟩).run Try.prog w = .ok (.agg (arrV u)) w := by
  refine run_loadVar_row w b 110 110 (arrV u) (0, 0) (.array 6 108) hu (by kernel_rfl) rfl ?_
  have : (arrV u).size = 18 := by simp [arrV, hl]
  rw [this]
  rfl
 simp only [asAddr, Sem.run_pure, Result.andThen_ok, hld]
theorem len_exec {ρ : Operand → Value} {o : Oper} {p : Operand} {b : Nat} {es : Array MapEntry} {clock : Nat} {w : World} {n : Nat} (ho : o.op = .call { callee := .builtin .len, args := #[p], argTypes := #[136] }) (hp : ρ p = .map (some b)) (hb : w.heap[b]? = some (.map es clock)) (hn : es.size = n) :
  (execOp ρ o).run Try.prog w = .ok (.value (.int .i64 n)) w := by
 have hm := run_len_map (P := Try.prog) (w := w) 136 o.type b es clock (by kernel_rfl) hb
 unfold execOp
 simp only [ho]
 go_simp
section
variable {P : Program} {ops : Array Oper} {Q : Exit → Act → World → Prop}
theorem update_step {oi : Oper} {a : Act} {w w1 : World} {K : Act → World → Prop} {t : TypeId} {m k v : Operand} {vm vk vv : Value} (hw : Region.wanted oi (yielded ops a.tmps) = true) (hN : oi.dst = none) (hop : oi.op = .mapUpdate t m k v) (em : a.eval m = vm) (ek : a.eval k = vk) (ev : a.eval v = vv)
  (hrun : (Instr.mapUpdate t vm vk vv).run P w = .ok () w1) (h : K a w1) : if Region.wanted oi (yielded ops a.tmps) = true then Oper.wp P oi a w K Q else K (a.put none undef) w := by
 refine skip_ hw hN ?_ h
 unfold execOp
 simp only [hop, em, ek, ev, Sem.run_bind, Sem.run_pure, Result.andThen_ok, hrun]
end
def boolV (xs : List Bool) : Array Value := (xs.map Value.bool).toArray
def BArr (w : World) (b t : Nat) (xs : List Bool) : Prop := w.heap[b]? = some (.cells (boolV xs) t (0, 0))
theorem BArr.cell {w : World} {b t : Nat} {xs : List Bool} (h : BArr w b t xs) (i : Nat) (hi : i < xs.length) : w.cell? ⟨b, i, none⟩ = some (.bool (xs.getD i false)) := (blk_cell h i).trans (by simp [boolV, hi])
theorem BArr.frozen {w : World} {b t : Nat} {xs : List Bool} (h : BArr w b t xs) (i : Nat) : w.frozen? ⟨b, i, none⟩ = false := blk_frozen h i
theorem BArr.set {w : World} {b t : Nat} {xs : List Bool} (h : BArr w b t xs) (i : Nat) (v : Bool) : BArr (w.setCell ⟨b, i, none⟩ (.bool v)) b t (xs.set i v) := by
 have := blk_set h i (.bool v)
 rw [show (boolV xs).setIfInBounds i (.bool v) = boolV (xs.set i v) from by simp [boolV, List.map_set]] at this
 exact this
theorem BArr.below {w w1 : World} {b t : Nat} {xs : List Bool} (h : BArr w b t xs) (hb : Below w.heap.size w w1) : BArr w1 b t xs := blk_below h hb
theorem BArr.same {w w1 : World} {b t : Nat} {xs : List Bool} (h : BArr w b t xs) (hs : w1.heap[b]? = w.heap[b]?) : BArr w1 b t xs := hs.trans h
def badM (n : Int) (h : Nat) (met : List (Int × Int)) (busy taken : List Bool) (m : S57) : Bool :=
 decide (m.f0 < 0) || (decide (m.f1 ≤ m.f0) || (decide (n ≤ m.f1) || (!(decide (0 ≤ m.f2) && decide (m.f2 ≤ (h : Int) - 1)) || (met.contains (m.f0, m.f1) || (busy.getD m.f0.toNat false || (busy.getD m.f1.toNat false || taken.getD m.f2.toNat false))))))
def useM (u : List Int) (m : S57) : List Int := useAt (useAt u m.f0 m.f2 1) m.f1 m.f2 1
def roundR (n : Int) (h : Nat) : List S57 → List (Int × Int) → List Bool → List Bool → List Int → Option (List (Int × Int) × List Int)
 | [], met, _, _, u => some (met, u)
 | m :: ms, met, busy, taken, u => if badM n h met busy taken m = true then none else roundR n h ms (met ++ [(m.f0, m.f1)]) ((busy.set m.f0.toNat true).set m.f1.toNat true) (taken.set m.f2.toNat true) (useM u m)
def allR (n : Int) (h : Nat) : List (List S57) → List (Int × Int) → List Int → Option (List (Int × Int) × List Int)
 | [], met, u => some (met, u)
 | l :: ls, met, u => (roundR n h l met (List.replicate 6 false) (List.replicate 3 false) u).bind fun p => allR n h ls p.1 p.2
def zeros18 : List Int := List.replicate 18 0
def rightF (n : Int) (h : Nat) (s : List (List S57)) : List Int × Bool :=
 if (allR n h s [] zeros18).isSome = true then (((allR n h s [] zeros18).getD ([], [])).2, decide ((s.length : Int) = n - 1 + Int.tmod n 2) && decide ((((allR n h s [] zeros18).getD ([], [])).1.length : Int) = Int.tdiv (n * (n - 1)) 2)) else (zeros18, false)
set_option maxRecDepth 100000 in
set_option maxHeartbeats 8000000 in
theorem right_calls (n : Int) (h : Nat) (hh : wrap64 (Int.tdiv n 2) = h) (h1 : 1 ≤ h) (h3 : h ≤ 3) (n2 : 2 ≤ n) (n6 : n ≤ 6) (A : Option Addr) (c : Nat) (s : List (List S57)) (w : World) (hr : Kd.C (Kd.slice 57 k57) w A s.length s) :
  Calls Try.prog 66 #[.int .i64 n, .slice A s.length c] w fun e w' => e = .returned (.tuple #[.agg (arrV (rightF n h s).1), .bool (rightF n h s).2]) ∧ Below w.heap.size w w' := by
 have HH := Lib.hid hh
 have HR := Aside0.mk hr
 have hm : s.length ≤ 9223372036854775807 := hr.2.1
 have hmm : ∀ W : World, (Instr.makeMap 136 none).run Try.prog W = .ok (.map (some W.heap.size)) (W.alloc (.map #[] 0)) := fun W => rfl
 clear hh hr
 go_enter Try.func66, Try.ntmps66
 go_wp2
 clear hmm
 obtain ⟨W0, hW0⟩ : ∃ W, W = ((w.alloc (.cells (arrV zeros18) 110)).alloc (.map #[] 0)) := ⟨_, rfl⟩
 change Code.wp _ _ _ _ ((w.alloc (.cells (arrV zeros18) 110)).alloc (.map #[] 0))
 rw [← hW0]
 have HU0 : Aside0 (ArrAt W0 w.heap.size 110 zeros18) := ⟨by rw [hW0]; exact blk_alloc (blk_new _ _) _⟩
 have HM0 : Aside0 (MapAt W0 (w.heap.size + 1) []) := ⟨by
  rw [hW0]
  have := blk_new (w.alloc (.cells (arrV zeros18) 110)) (.map #[] 0)
  rw [show (w.alloc (.cells (arrV zeros18) 110)).heap.size = w.heap.size + 1 from by simp] at this
  exact this⟩
 have HB0 : Aside0 (Below w.heap.size w W0) := ⟨by rw [hW0]; exact below_alloc (below_alloc (Below.refl _ _) _) _⟩
 clear hW0
 obtain ⟨R, hR⟩ : ∃ R, allR n h s [] zeros18 = R := ⟨_, rfl⟩
 have HRR := Lib.hid hR
 clear hR
 go_loopw [17] (fun v wr => ∃ (k : Nat) (met : List (Int × Int)) (u : List Int), v = .int .i64 k ∧ k ≤ s.length ∧ Aside0 (allR n h (s.drop k) met u = R) ∧ Aside0 (u.length = 18) ∧ Aside0 (ArrAt wr w.heap.size 110 u) ∧ Aside0 (MapAt wr (w.heap.size + 1) met) ∧ Aside0 (Below w.heap.size w wr)) (fun v _ => s.length - (intOf v).toNat)
 case atStart => exact ⟨0, [], zeros18, rfl, Nat.zero_le _, ⟨by rw [List.drop_zero]; exact HRR.out⟩, ⟨by decide⟩, HU0, HM0, HB0⟩
 case round =>
  obtain ⟨k, met, u, rfl, hk, hX, hul, hU, hM, hB⟩ := hrel
  by_cases hlt : k < s.length
  ·
   obtain ⟨ad, A1, c1, rfl, q0w, hc1, hr1⟩ := at_L7 HR.out (k : Int) (by omega) (by omega)
   have q0 := (hB.out.cell (World.block_lt_of_cell? w _ q0w)).trans q0w
   clear q0w
   rw [Int.toNat_natCast] at q0
   obtain ⟨row, hrow⟩ : ∃ row, rd_L7 s (k : Int) = row := ⟨_, rfl⟩
   have HROW : Hid (s.drop k = row :: s.drop (k + 1)) := by
    show _ = _
    rw [List.drop_eq_getElem_cons hlt, ← hrow]
    show _ = (s.getD k []) :: _
    rw [List.getD_eq_getElem?_getD, List.getElem?_eq_getElem hlt]; rfl
   rw [hrow] at q0 hc1 hr1
   have HR1 := Aside0.mk hr1
   have hm1 : row.length ≤ 9223372036854775807 := hr1.2.1
   clear hrow hc1 hr1
   go_wp2
   obtain ⟨W1, hW1⟩ : ∃ W, W = ((wr.alloc (.cells (boolV (List.replicate 6 false)) 137)).alloc (.cells (boolV (List.replicate 3 false)) 138)) := ⟨_, rfl⟩
   change Code.wp _ _ _ _ ((wr.alloc (.cells (boolV (List.replicate 6 false)) 137)).alloc (.cells (boolV (List.replicate 3 false)) 138))
   rw [← hW1]
   obtain ⟨b9, hb9⟩ : ∃ b9, wr.heap.size = b9 := ⟨_, rfl⟩
   have HK1 : Aside0 (BArr W1 b9 137 (List.replicate 6 false)) := ⟨by rw [hW1, ← hb9]; exact blk_alloc (blk_new _ _) _⟩
   have HT1 : Aside0 (BArr W1 (b9 + 1) 138 (List.replicate 3 false)) := ⟨by
    rw [hW1, ← hb9]
    have := blk_new (wr.alloc (.cells (boolV (List.replicate 6 false)) 137)) (.cells (boolV (List.replicate 3 false)) 138)
    rw [show (wr.alloc (.cells (boolV (List.replicate 6 false)) 137)).heap.size = wr.heap.size + 1 from by simp] at this
    exact this⟩
   have hbw : Below wr.heap.size wr W1 := by rw [hW1]; exact below_alloc (below_alloc (Below.refl _ _) _) _
   have HU1 := Aside0.mk (hU.out.below hbw)
   have HM1 := Aside0.mk (hM.out.below hbw)
   have HB1 : Aside0 (Below w.heap.size w W1) := ⟨below_step hB.out hbw⟩
   have hlm : w.heap.size + 1 < b9 := by rw [← hb9]; exact blk_lt hM.out
   have HX1 : Hid ((roundR n h row met (List.replicate 6 false) (List.replicate 3 false) u).bind (fun p => allR n h (s.drop (k + 1)) p.1 p.2) = R) := by
    have := hX.out
    rw [HROW.out] at this
    exact this
   rw [hb9]
   have hszs : w.heap.size ≤ wr.heap.size := hB.out.size
   clear hW1 hbw hb9
   go_loopw [23] (fun v w1 => ∃ (j : Nat) (met' : List (Int × Int)) (busy taken : List Bool) (u' : List Int), v = .int .i64 j ∧ j ≤ row.length ∧ Aside0 ((roundR n h (row.drop j) met' busy taken u').bind (fun p => allR n h (s.drop (k + 1)) p.1 p.2) = R) ∧ Aside0 (busy.length = 6 ∧ taken.length = 3 ∧ u'.length = 18) ∧
    Aside0 (ArrAt w1 w.heap.size 110 u') ∧ Aside0 (MapAt w1 (w.heap.size + 1) met') ∧ Aside0 (BArr w1 b9 137 busy) ∧ Aside0 (BArr w1 (b9 + 1) 138 taken) ∧ Aside0 (Below w.heap.size w w1)) (fun v _ => row.length - (intOf v).toNat)
   case atStart => exact ⟨0, met, _, _, u, rfl, Nat.zero_le _, ⟨by rw [List.drop_zero]; exact HX1.out⟩, ⟨by simp, by simp, hul.out⟩, HU1, HM1, HK1, HT1, HB1⟩
   case round =>
    obtain ⟨j, met', busy, taken, u', rfl, hj, hX2, hlens, hU2, hM2, hK2, hT2, hB2⟩ := hrel
    by_cases hlj : j < row.length
    ·
     obtain ⟨am, ea, g0, g1, g2⟩ := at_T57 (Kd.C_below HR1.out hB2.out) (j : Int) (by omega) (by omega)
     cases ea
     simp only [Int.toNat_natCast] at g0 g1 g2
     obtain ⟨m, hmm⟩ : ∃ m, rd_T57 row (j : Int) = m := ⟨_, rfl⟩
     have HD : Hid (row.drop j = m :: row.drop (j + 1)) := by
      show _ = _
      rw [List.drop_eq_getElem_cons hlj, ← hmm]
      show _ = (row.getD j z57) :: _
      rw [List.getD_eq_getElem?_getD, List.getElem?_eq_getElem hlj]; rfl
     rw [hmm] at g0 g1 g2
     clear hmm
     obtain ⟨m0, m1, m2⟩ := m
     simp only at g0 g1 g2
     go_upto_region 11 with fail
     obtain ⟨W2, hW2⟩ : ∃ W, W = ((wr.alloc (.cells #[.int .i64 m0, .int .i64 m1, .int .i64 m2] 57)).alloc (.cells #[.int .i64 m0, .int .i64 m1] 140)) := ⟨_, rfl⟩
     rw [← hW2]
     obtain ⟨b12, hb12⟩ : ∃ b12, wr.heap.size = b12 := ⟨_, rfl⟩
     have hb2 : Below wr.heap.size wr W2 := by rw [hW2]; exact below_alloc (below_alloc (Below.refl _ _) _) _
     have HM3 : Aside0 (W2.heap[b12]? = some (.cells #[.int .i64 m0, .int .i64 m1, .int .i64 m2] 57 (0, 0))) := ⟨by rw [hW2, ← hb12]; exact blk_alloc (blk_new _ _) _⟩
     have HP3 : Aside0 (W2.heap[b12 + 1]? = some (.cells #[.int .i64 m0, .int .i64 m1] 140 (0, 0))) := ⟨by
      rw [hW2, ← hb12]
      have := blk_new (wr.alloc (.cells #[.int .i64 m0, .int .i64 m1, .int .i64 m2] 57)) (.cells #[.int .i64 m0, .int .i64 m1] 140)
      rw [show (wr.alloc (.cells #[.int .i64 m0, .int .i64 m1, .int .i64 m2] 57)).heap.size = wr.heap.size + 1 from by simp] at this
      exact this⟩
     have HU3 := Aside0.mk (hU2.out.below hb2)
     have HMM3 := Aside0.mk (hM2.out.below hb2)
     have HK3 := Aside0.mk (hK2.out.below hb2)
     have HT3 := Aside0.mk (hT2.out.below hb2)
     have HB3 : Aside0 (Below w.heap.size w W2) := ⟨below_step hB2.out hb2⟩
     have hlb : b9 + 1 < b12 := by rw [← hb12]; exact blk_lt hT2.out
     rw [hb12]
     clear hW2 hb2 hb12 g0 g1 g2 q0
     obtain ⟨bad, hbad⟩ : ∃ bad, badM n h met' busy taken ⟨m0, m1, m2⟩ = bad := ⟨_, rfl⟩
     have HBAD := Lib.hid hbad
     have k0 := blk_cell HM3.out 0
     have k1 := blk_cell HM3.out 1
     have k2 := blk_cell HM3.out 2
     have p0 := blk_cell HP3.out 0
     have p1 := blk_cell HP3.out 1
     simp only [List.getElem?_toArray, List.getElem?_cons_zero, List.getElem?_cons_succ] at k0 k1 k2 p0 p1
     have HLK : Hid (∀ W', W'.heap[w.heap.size + 1]? = some (.map (mapOf met').toArray met'.length) → (Instr.lookup 136 (.map (some (w.heap.size + 1))) (.agg #[.int .i64 m0, .int .i64 m1]) false).run Try.prog W' = .ok (.bool (met'.contains (m0, m1))) W') := fun W' hW => lookup_pair (p := (m0, m1)) hW
     clear hbad
     go_cut [23, 79] from 23 to 112 (fun s23 s79 wx => s23 = .int .i64 j ∧ s79 = .bool bad ∧ Aside0 (Below W2.heap.size W2 wx))
     case first =>
      by_cases t1 : m0 < 0
      ·
       have b1 : decide (m0 < 0) = true := decide_eq_true t1
       have hb : bad = true := by rw [← HBAD.out]; unfold badM; rw [b1]; rfl
       subst hb
       clear t1
       go_quiet (first | (go_at_call 99; (with_reducible refine (halls_calls n h HH.out _).mono ?_); rintro e w' ⟨rfl, ⟨nd, rfl⟩⟩; (try first | exact ⟨rfl, _, World.drewN_drewN _ _ _⟩ | exact ⟨rfl, _, Eq.trans (World.drewN_drewN _ _ _) (congrArg (World.drewN _) (Nat.add_assoc _ _ _))⟩)) | fail)
       go_wp2_with fail
       go_meet
       exact ⟨rfl, rfl, ⟨pw_below_drewN (Below.refl _ _) _⟩⟩
      have b1 : decide (m0 < 0) = false := decide_eq_false t1
      have a1 : 0 ≤ m0 := by omega
      clear t1
      by_cases t2 : m1 ≤ m0
      ·
       have b2 : decide (m1 ≤ m0) = true := decide_eq_true t2
       have hb : bad = true := by rw [← HBAD.out]; unfold badM; simp only [b1, b2, Bool.false_or, Bool.true_or]
       subst hb
       clear t2
       go_quiet (first | (go_at_call 99; (with_reducible refine (halls_calls n h HH.out _).mono ?_); rintro e w' ⟨rfl, ⟨nd, rfl⟩⟩; (try first | exact ⟨rfl, _, World.drewN_drewN _ _ _⟩ | exact ⟨rfl, _, Eq.trans (World.drewN_drewN _ _ _) (congrArg (World.drewN _) (Nat.add_assoc _ _ _))⟩)) | fail)
       go_wp2_with fail
       go_meet
       exact ⟨rfl, rfl, ⟨pw_below_drewN (Below.refl _ _) _⟩⟩
      have b2 : decide (m1 ≤ m0) = false := decide_eq_false t2
      have a2' : m0 < m1 := by omega
      clear t2
      by_cases t3 : n ≤ m1
      ·
       have b3 : decide (n ≤ m1) = true := decide_eq_true t3
       have hb : bad = true := by rw [← HBAD.out]; unfold badM; simp only [b1, b2, b3, Bool.false_or, Bool.true_or]
       subst hb
       clear t3
       go_quiet (first | (go_at_call 99; (with_reducible refine (halls_calls n h HH.out _).mono ?_); rintro e w' ⟨rfl, ⟨nd, rfl⟩⟩; (try first | exact ⟨rfl, _, World.drewN_drewN _ _ _⟩ | exact ⟨rfl, _, Eq.trans (World.drewN_drewN _ _ _) (congrArg (World.drewN _) (Nat.add_assoc _ _ _))⟩)) | fail)
       go_wp2_with fail
       go_meet
       exact ⟨rfl, rfl, ⟨pw_below_drewN (Below.refl _ _) _⟩⟩
      have b3 : decide (n ≤ m1) = false := decide_eq_false t3
      have a3 : m1 < n := by omega
      clear t3
      obtain ⟨wi, hwi⟩ : ∃ wi, (decide (0 ≤ m2) && decide (m2 ≤ (h : Int) - 1)) = wi := ⟨_, rfl⟩
      have HWI : Hid (league_within.f m2 0 ((h : Int) - 1) = some wi) := by show _ = _; rw [within_eq, hwi]
      have hwh : wrap64 ((h : Int) - 1) = (h : Int) - 1 := IntWalk.wrap64_in _ ⟨by omega, by omega⟩
      have HW4 := Lib.hid hwi
      clear hwi
      cases wi with
      | false =>
       have hb : bad = true := by rw [← HBAD.out]; unfold badM; simp only [b1, b2, b3, HW4.out, Bool.false_or, Bool.not_false, Bool.true_or]
       subst hb
       go_quiet (first | (go_at_call 99; (with_reducible refine (halls_calls n h HH.out _).mono ?_); rintro e w' ⟨rfl, ⟨nd, rfl⟩⟩; (try first | exact ⟨rfl, _, World.drewN_drewN _ _ _⟩ | exact ⟨rfl, _, Eq.trans (World.drewN_drewN _ _ _) (congrArg (World.drewN _) (Nat.add_assoc _ _ _))⟩)) | (go_at_call 81; (with_reducible refine (league_within.calls m2 0 ((h : Int) - 1) false _ HWI.out).mono ?_); rintro e w' ⟨rfl, ⟨nd, rfl⟩⟩; (try first | exact ⟨rfl, _, World.drewN_drewN _ _ _⟩ | exact ⟨rfl, _, Eq.trans (World.drewN_drewN _ _ _) (congrArg (World.drewN _) (Nat.add_assoc _ _ _))⟩)))
       go_wp2_with fail
       go_meet
       exact ⟨rfl, rfl, ⟨pw_below_drewN (Below.refl _ _) _⟩⟩
      | true =>
      have a5 : 0 ≤ m2 ∧ m2 ≤ (h : Int) - 1 := by simpa using HW4.out
      obtain ⟨a5, a6⟩ := a5
      have a7 : m2 < 3 := by omega
      have a8 : m0 < 6 := by omega
      have a9 : m1 < 6 := by omega
      have a10 : 0 ≤ m1 := by omega
      obtain ⟨cm, hcm⟩ : ∃ cm, met'.contains (m0, m1) = cm := ⟨_, rfl⟩
      have HCM := Lib.hid hcm
      have hlk : ∀ mm, (Instr.lookup 136 (.map (some (w.heap.size + 1))) (.agg #[.int .i64 m0, .int .i64 m1]) false).run Try.prog (W2.drewN mm) = .ok (.bool cm) (W2.drewN mm) := fun mm => by
       have := HLK.out (W2.drewN mm) HMM3.out
       rw [hcm] at this
       exact this
      clear hcm
      cases cm with
      | true =>
       have hb : bad = true := by rw [← HBAD.out]; unfold badM; simp only [b1, b2, b3, HW4.out, HCM.out, Bool.false_or, Bool.not_true, Bool.true_or]
       subst hb
       go_quiet (first | (go_at_call 99; (with_reducible refine (halls_calls n h HH.out _).mono ?_); rintro e w' ⟨rfl, ⟨nd, rfl⟩⟩; (try first | exact ⟨rfl, _, World.drewN_drewN _ _ _⟩ | exact ⟨rfl, _, Eq.trans (World.drewN_drewN _ _ _) (congrArg (World.drewN _) (Nat.add_assoc _ _ _))⟩)) | (go_at_call 81; (with_reducible refine (league_within.calls m2 0 ((h : Int) - 1) true _ HWI.out).mono ?_); rintro e w' ⟨rfl, ⟨nd, rfl⟩⟩; (try first | exact ⟨rfl, _, World.drewN_drewN _ _ _⟩ | exact ⟨rfl, _, Eq.trans (World.drewN_drewN _ _ _) (congrArg (World.drewN _) (Nat.add_assoc _ _ _))⟩)))
       go_wp2_with fail
       go_meet
       exact ⟨rfl, rfl, ⟨pw_below_drewN (Below.refl _ _) _⟩⟩
      | false =>
      have yy0 := HK3.out.cell m0.toNat (by rw [hlens.out.1]; omega)
      have yy1 := HK3.out.cell m1.toNat (by rw [hlens.out.1]; omega)
      have yy2 := HT3.out.cell m2.toNat (by rw [hlens.out.2.1]; omega)
      obtain ⟨y0, hy0⟩ : ∃ y, busy.getD m0.toNat false = y := ⟨_, rfl⟩
      obtain ⟨y1, hy1⟩ : ∃ y, busy.getD m1.toNat false = y := ⟨_, rfl⟩
      obtain ⟨y2, hy2⟩ : ∃ y, taken.getD m2.toNat false = y := ⟨_, rfl⟩
      rw [hy0] at yy0
      rw [hy1] at yy1
      rw [hy2] at yy2
      have HBB : Hid (bad = (y0 || (y1 || y2))) := by show _ = _; rw [← HBAD.out, ← hy0, ← hy1, ← hy2]; unfold badM; simp only [b1, b2, b3, HW4.out, HCM.out, Bool.false_or, Bool.not_true]
      clear hy0 hy1 hy2
      cases y0 with
      | true =>
       have hb : bad = true := HBB.out
       subst hb
       go_quiet (first | (go_at_call 99; (with_reducible refine (halls_calls n h HH.out _).mono ?_); rintro e w' ⟨rfl, ⟨nd, rfl⟩⟩; (try first | exact ⟨rfl, _, World.drewN_drewN _ _ _⟩ | exact ⟨rfl, _, Eq.trans (World.drewN_drewN _ _ _) (congrArg (World.drewN _) (Nat.add_assoc _ _ _))⟩)) | (go_at_call 81; (with_reducible refine (league_within.calls m2 0 ((h : Int) - 1) true _ HWI.out).mono ?_); rintro e w' ⟨rfl, ⟨nd, rfl⟩⟩; (try first | exact ⟨rfl, _, World.drewN_drewN _ _ _⟩ | exact ⟨rfl, _, Eq.trans (World.drewN_drewN _ _ _) (congrArg (World.drewN _) (Nat.add_assoc _ _ _))⟩)))
       go_wp2_with fail
       go_meet
       exact ⟨rfl, rfl, ⟨pw_below_drewN (Below.refl _ _) _⟩⟩
      | false =>
      cases y1 with
      | true =>
       have hb : bad = true := HBB.out
       subst hb
       go_quiet (first | (go_at_call 99; (with_reducible refine (halls_calls n h HH.out _).mono ?_); rintro e w' ⟨rfl, ⟨nd, rfl⟩⟩; (try first | exact ⟨rfl, _, World.drewN_drewN _ _ _⟩ | exact ⟨rfl, _, Eq.trans (World.drewN_drewN _ _ _) (congrArg (World.drewN _) (Nat.add_assoc _ _ _))⟩)) | (go_at_call 81; (with_reducible refine (league_within.calls m2 0 ((h : Int) - 1) true _ HWI.out).mono ?_); rintro e w' ⟨rfl, ⟨nd, rfl⟩⟩; (try first | exact ⟨rfl, _, World.drewN_drewN _ _ _⟩ | exact ⟨rfl, _, Eq.trans (World.drewN_drewN _ _ _) (congrArg (World.drewN _) (Nat.add_assoc _ _ _))⟩)))
       go_wp2_with fail
       go_meet
       exact ⟨rfl, rfl, ⟨pw_below_drewN (Below.refl _ _) _⟩⟩
      | false =>
       have hb : bad = y2 := HBB.out
       subst hb
       go_quiet (first | (go_at_call 99; (with_reducible refine (halls_calls n h HH.out _).mono ?_); rintro e w' ⟨rfl, ⟨nd, rfl⟩⟩; (try first | exact ⟨rfl, _, World.drewN_drewN _ _ _⟩ | exact ⟨rfl, _, Eq.trans (World.drewN_drewN _ _ _) (congrArg (World.drewN _) (Nat.add_assoc _ _ _))⟩)) | (go_at_call 81; (with_reducible refine (league_within.calls m2 0 ((h : Int) - 1) true _ HWI.out).mono ?_); rintro e w' ⟨rfl, ⟨nd, rfl⟩⟩; (try first | exact ⟨rfl, _, World.drewN_drewN _ _ _⟩ | exact ⟨rfl, _, Eq.trans (World.drewN_drewN _ _ _) (congrArg (World.drewN _) (Nat.add_assoc _ _ _))⟩)))
       go_wp2_with fail
       go_meet
       exact ⟨rfl, rfl, ⟨pw_below_drewN (Below.refl _ _) _⟩⟩
     case rest =>
      obtain ⟨rfl, rfl, hBC⟩ := hcut
      have HUc := Aside0.mk (HU3.out.below hBC.out)
      have HMc := Aside0.mk (HMM3.out.below hBC.out)
      have HKc := Aside0.mk (HK3.out.below hBC.out)
      have HTc := Aside0.mk (HT3.out.below hBC.out)
      have HBc : Aside0 (Below w.heap.size w wc) := ⟨below_step HB3.out hBC.out⟩
      have HCc := Aside0.mk (blk_below HM3.out hBC.out)
      have HPc := Aside0.mk (blk_below HP3.out hBC.out)
      clear k0 k1 k2 p0 p1 HLK
      cases bad with
      | true =>
       have HRN : Hid (R = none) := by
        have h1 := hX2.out
        rw [HD.out] at h1
        unfold roundR at h1
        rw [if_pos HBAD.out, Option.bind_none] at h1
        exact h1.symm
       have HRT : Hid (rightF n h s = (zeros18, false)) := by
        show _ = _
        unfold rightF
        rw [if_neg (by rw [HRR.out, HRN.out]; decide)]
       have HSTU : Hid ((storeVar 110 ⟨w.heap.size, 0, none⟩ (.agg (arrV zeros18))).run Try.prog wc = .ok () (wc.setRow w.heap.size (arrV zeros18))) := by
        refine run_storeVar_row (P := Try.prog) wc w.heap.size 110 110 (arrV u') (arrV zeros18) HUc.out (by rfl) ?_ (by simp [arrV, zeros18, Value.oneCell'])
        simp [arrV, zeros18, hlens.out.2.2]
       go_wp2_with ((with_reducible refine gate_store (t := 110) (p := 4) rfl ?_); refine store_event (t := 110) (p := 4) (v := ?vo) (w1 := wc.setRow w.heap.size (arrV zeros18)) ?hg ?ho ?hn ?hr ?_; (case ho => rfl); (case hg => rfl); (case hn => rfl); (case hr => exact store_exec (t := 110) (p := .tmp 4) (ad := ⟨w.heap.size, 0, none⟩) (val := .agg (arrV zeros18)) rfl rfl rfl HSTU.out); intro w66 hw)
       subst hw
       refine bodyPost_ret (res66 (setRow_arr HUc.out) (by decide) rfl rfl) rfl ⟨by rw [HRT.out], setRow_below HBc.out _ (Nat.le_refl _) _⟩
      | false =>
       have hgood := HBAD.out
       unfold badM at hgood
       simp only [Bool.or_eq_false_iff, decide_eq_false_iff_not, Bool.not_eq_false', Bool.and_eq_true, decide_eq_true_eq] at hgood
       obtain ⟨a1, a2, a3, ⟨a5, a6⟩, hcm, _, _, _⟩ := hgood
       have HCM := Lib.hid hcm
       have b0 : 0 ≤ m0 := by omega
       have b1 : m0 < 6 := by omega
       have b2 : 0 ≤ m1 := by omega
       have b3 : m1 < 6 := by omega
       have b4 : m2 < 3 := by omega
       have k0 : wc.cell? ⟨b12, 0, none⟩ = some (.int .i64 m0) := (blk_cell HCc.out 0).trans rfl
       have k1 : wc.cell? ⟨b12, 1, none⟩ = some (.int .i64 m1) := (blk_cell HCc.out 1).trans rfl
       have k2 : wc.cell? ⟨b12, 2, none⟩ = some (.int .i64 m2) := (blk_cell HCc.out 2).trans rfl
       have p0 : wc.cell? ⟨b12 + 1, 0, none⟩ = some (.int .i64 m0) := (blk_cell HPc.out 0).trans rfl
       have p1 : wc.cell? ⟨b12 + 1, 1, none⟩ = some (.int .i64 m1) := (blk_cell HPc.out 1).trans rfl
       obtain ⟨V1, hV1, hV2, hV3⟩ := update_pair (W := wc.drew) HMc.out (m0, m1) hcm
       have HV1 := Lib.hid hV1
       have HV2 := Aside0.mk hV2
       have HV3 := Aside0.mk hV3
       obtain ⟨V2, hV2⟩ : ∃ W, W = V1.setCell ⟨b9, m0.toNat, none⟩ (.bool true) := ⟨_, rfl⟩
       obtain ⟨V3, hV3⟩ : ∃ W, W = V2.setCell ⟨b9, m1.toNat, none⟩ (.bool true) := ⟨_, rfl⟩
       obtain ⟨V4, hV4⟩ : ∃ W, W = V3.setCell ⟨b9 + 1, m2.toNat, none⟩ (.bool true) := ⟨_, rfl⟩
       have HK1' : Aside0 (BArr V1 b9 137 busy) := ⟨HKc.out.same (HV3.out.block b9 (blk_lt HKc.out) (fun e => by injection e with e; omega))⟩
       have HT1' : Aside0 (BArr V1 (b9 + 1) 138 taken) := ⟨HTc.out.same (HV3.out.block (b9 + 1) (blk_lt HTc.out) (fun e => by injection e with e; omega))⟩
       have HK2' : Aside0 (BArr V2 b9 137 (busy.set m0.toNat true)) := ⟨by rw [hV2]; exact HK1'.out.set _ _⟩
       have HT2' : Aside0 (BArr V2 (b9 + 1) 138 taken) := ⟨by rw [hV2]; exact HT1'.out.same (Below.heap_setCell V1 ⟨b9, _, none⟩ _ (b9 + 1) (show b9 + 1 ≠ b9 by omega))⟩
       have HK3' : Aside0 (BArr V3 b9 137 ((busy.set m0.toNat true).set m1.toNat true)) := ⟨by rw [hV3]; exact HK2'.out.set _ _⟩
       have HT3' : Aside0 (BArr V3 (b9 + 1) 138 taken) := ⟨by rw [hV3]; exact HT2'.out.same (Below.heap_setCell V2 ⟨b9, _, none⟩ _ (b9 + 1) (show b9 + 1 ≠ b9 by omega))⟩
       have HK4' : Aside0 (BArr V4 b9 137 ((busy.set m0.toNat true).set m1.toNat true)) := ⟨by rw [hV4]; exact HK3'.out.same (Below.heap_setCell V3 ⟨b9 + 1, _, none⟩ _ b9 (show b9 ≠ b9 + 1 by omega))⟩
       have HT4' : Aside0 (BArr V4 (b9 + 1) 138 (taken.set m2.toNat true)) := ⟨by rw [hV4]; exact HT3'.out.set _ _⟩
       have HFAR : Aside0 (∀ k, k ≠ w.heap.size + 1 → k ≠ b9 → k ≠ b9 + 1 → k < wc.heap.size → V4.heap[k]? = wc.heap[k]? ∧ V3.heap[k]? = wc.heap[k]? ∧ V2.heap[k]? = wc.heap[k]? ∧ V1.heap[k]? = wc.heap[k]?) := ⟨fun k e1 e2 e3 e4 => by
        have f1 : V1.heap[k]? = wc.heap[k]? := HV3.out.block k e4 (fun e => e1 (by injection e))
        have f2 : V2.heap[k]? = wc.heap[k]? := by rw [hV2]; exact (Below.heap_setCell V1 ⟨b9, _, none⟩ _ k e2).trans f1
        have f3 : V3.heap[k]? = wc.heap[k]? := by rw [hV3]; exact (Below.heap_setCell V2 ⟨b9, _, none⟩ _ k e2).trans f2
        have f4 : V4.heap[k]? = wc.heap[k]? := by rw [hV4]; exact (Below.heap_setCell V3 ⟨b9 + 1, _, none⟩ _ k e3).trans f3
        exact ⟨f4, f3, f2, f1⟩⟩
       have HL12 := Aside0.mk (blk_lt HCc.out)
       have HL13 := Aside0.mk (blk_lt HPc.out)
       have hz1 : w.heap.size + 1 < b9 := hlm
       have HW2 : Hid (V2 = _) := hV2
       have HW3 : Hid (V3 = _) := hV3
       have HW4 : Hid (V4 = _) := hV4
       clear hcm hV1 a1 a2 a3 hV2 hV3 hV4
       go_upto_region 13 with fail
       refine start_ (n := 15) (S := fun w' => w'.cell? ⟨b12, 0, none⟩ = some (.int .i64 m0) ∧ w'.cell? ⟨b12, 1, none⟩ = some (.int .i64 m1) ∧ w'.cell? ⟨b12, 2, none⟩ = some (.int .i64 m2) ∧ w'.cell? ⟨b12 + 1, 0, none⟩ = some (.int .i64 m0) ∧ w'.cell? ⟨b12 + 1, 1, none⟩ = some (.int .i64 m1)) (ds := []) #[false, false, false, false, false, false, false, false, false, false, false, false, false, false, false] (by kernel_rfl) rfl rfl ⟨k0, k1, k2, p0, p1⟩ (fun hHeld => ?_)
       refine pure_ (i := 0) (N := some 81) (v := ?_) (a' := ?_) #[true, false, false, false, false, false, false, false, false, false, false, false, false, false, false] rfl rfl (by kernel_rfl) (fun _ _ _ h => h) (Or.inl ⟨by rfl, ?_⟩) ?_ ?_
       rotate_left
       ·
        intro w'
        go_simp
        with_reducible rfl
       rotate_left
       ·
        simp only [Act.put, List.setIfInBounds_toArray, List.set_cons_zero, List.set_cons_succ, i64_w, i32_w]
        rfl
       refine pure_ (i := 2) (N := some 83) (v := ?_) (a' := ?_) #[true, false, true, false, false, false, false, false, false, false, false, false, false, false, false] rfl rfl (by kernel_rfl) (fun _ _ _ h => h) (Or.inl ⟨by rfl, ?_⟩) ?_ ?_
       rotate_left
       ·
        intro w'
        go_simp
        with_reducible rfl
       rotate_left
       ·
        simp only [Act.put, List.setIfInBounds_toArray, List.set_cons_zero, List.set_cons_succ, i64_w, i32_w]
        rfl
       refine pure_ (i := 4) (N := some 85) (v := ?_) (a' := ?_) #[true, false, true, false, true, false, false, false, false, false, false, false, false, false, false] rfl rfl (by kernel_rfl) (fun _ _ _ h => h) (Or.inl ⟨by rfl, ?_⟩) ?_ ?_
       rotate_left
       ·
        intro w'
        go_simp
        with_reducible rfl
       rotate_left
       ·
        simp only [Act.put, List.setIfInBounds_toArray, List.set_cons_zero, List.set_cons_succ, i64_w, i32_w]
        rfl
       refine pure_ (i := 6) (N := some 87) (v := ?_) (a' := ?_) #[true, false, true, false, true, false, true, false, false, false, false, false, false, false, false] rfl rfl (by kernel_rfl) (fun _ _ _ h => h) (Or.inl ⟨by rfl, ?_⟩) ?_ ?_
       rotate_left
       ·
        intro w'
        go_simp
        with_reducible rfl
       rotate_left
       ·
        simp only [Act.put, List.setIfInBounds_toArray, List.set_cons_zero, List.set_cons_succ, i64_w, i32_w]
        rfl
       refine take_ (i := 1) (N := some 82) (v := ?_) (a' := ?_) #[true, true, true, false, true, false, true, false, false, false, false, false, false, false, false] rfl rfl (by kernel_rfl) (fun _ _ _ h => h) (Or.inl ⟨by rfl, ?_⟩) hHeld ?_ ?_
       rotate_left
       ·
        rintro w' ⟨s0, s1, s2, s3, s4⟩
        go_simp
        with_reducible rfl
       rotate_left
       ·
        simp only [Act.put, List.setIfInBounds_toArray, List.set_cons_zero, List.set_cons_succ, i64_w, i32_w]
        rfl
       refine take_ (i := 3) (N := some 84) (v := ?_) (a' := ?_) #[true, true, true, true, true, false, true, false, false, false, false, false, false, false, false] rfl rfl (by kernel_rfl) (fun _ _ _ h => h) (Or.inl ⟨by rfl, ?_⟩) hHeld ?_ ?_
       rotate_left
       ·
        rintro w' ⟨s0, s1, s2, s3, s4⟩
        go_simp
        with_reducible rfl
       rotate_left
       ·
        simp only [Act.put, List.setIfInBounds_toArray, List.set_cons_zero, List.set_cons_succ, i64_w, i32_w]
        rfl
       refine take_ (i := 5) (N := some 86) (v := ?_) (a' := ?_) #[true, true, true, true, true, true, true, false, false, false, false, false, false, false, false] rfl rfl (by kernel_rfl) (fun _ _ _ h => h) (Or.inl ⟨by rfl, ?_⟩) hHeld ?_ ?_
       rotate_left
       ·
        rintro w' ⟨s0, s1, s2, s3, s4⟩
        go_simp
        with_reducible rfl
       rotate_left
       ·
        simp only [Act.put, List.setIfInBounds_toArray, List.set_cons_zero, List.set_cons_succ, i64_w, i32_w]
        rfl
       refine take_ (i := 7) (N := some 88) (v := ?_) (a' := ?_) #[true, true, true, true, true, true, true, true, false, false, false, false, false, false, false] rfl rfl (by kernel_rfl) (fun _ _ _ h => h) (Or.inl ⟨by rfl, ?_⟩) hHeld ?_ ?_
       rotate_left
       ·
        rintro w' ⟨s0, s1, s2, s3, s4⟩
        go_simp
        with_reducible rfl
       rotate_left
       ·
        simp only [Act.put, List.setIfInBounds_toArray, List.set_cons_zero, List.set_cons_succ, i64_w, i32_w]
        rfl
       refine one_ (i := 8) (N := none) #[true, true, true, true, true, true, true, true, true, false, false, false, false, false, false] rfl rfl (by kernel_rfl) (by decide) (fun K hK => ?_)
       refine update_step (w1 := V1) (by rfl) rfl rfl rfl rfl rfl HV1.out ?_
       refine hK.out _ _ ⟨(World.cell?_of_block (a := ⟨b12, 0, none⟩) ((HFAR.out (b12) (by omega) (by omega) (by omega) HL12.out).2.2.2)).trans k0, (World.cell?_of_block (a := ⟨b12, 1, none⟩) ((HFAR.out (b12) (by omega) (by omega) (by omega) HL12.out).2.2.2)).trans k1, (World.cell?_of_block (a := ⟨b12, 2, none⟩) ((HFAR.out (b12) (by omega) (by omega) (by omega) HL12.out).2.2.2)).trans k2, (World.cell?_of_block (a := ⟨b12 + 1, 0, none⟩) ((HFAR.out (b12 + 1) (by omega) (by omega) (by omega) HL13.out).2.2.2)).trans p0, (World.cell?_of_block (a := ⟨b12 + 1, 1, none⟩) ((HFAR.out (b12 + 1) (by omega) (by omega) (by omega) HL13.out).2.2.2)).trans p1⟩ (fun hHeld => ?_)
       clear hK K
       refine pure_ (i := 9) (N := some 89) (v := ?_) (a' := ?_) #[true, true, true, true, true, true, true, true, true, true, false, false, false, false, false] rfl rfl (by kernel_rfl) (fun _ _ _ h => h) (Or.inl ⟨by rfl, ?_⟩) ?_ ?_
       rotate_left
       ·
        intro w'
        go_simp
        with_reducible rfl
       rotate_left
       ·
        simp only [Act.put, List.setIfInBounds_toArray, List.set_cons_zero, List.set_cons_succ, i64_w, i32_w]
        rfl
       refine one_ (i := 10) (N := none) #[true, true, true, true, true, true, true, true, true, true, true, false, false, false, false] rfl rfl (by kernel_rfl) (by decide) (fun K hK => ?_)
       have cc := HK1'.out.cell m0.toNat (by simp [hlens.out.1, hlens.out.2.1]; omega)
       have cf := HK1'.out.frozen m0.toNat
       refine skip_ (w1 := V2) (by rfl) rfl ?_ ?_
       ·
        rw [HW2.out]
        go_simp
       clear cc cf
       refine hK.out _ _ ⟨(World.cell?_of_block (a := ⟨b12, 0, none⟩) ((HFAR.out (b12) (by omega) (by omega) (by omega) HL12.out).2.2.1)).trans k0, (World.cell?_of_block (a := ⟨b12, 1, none⟩) ((HFAR.out (b12) (by omega) (by omega) (by omega) HL12.out).2.2.1)).trans k1, (World.cell?_of_block (a := ⟨b12, 2, none⟩) ((HFAR.out (b12) (by omega) (by omega) (by omega) HL12.out).2.2.1)).trans k2, (World.cell?_of_block (a := ⟨b12 + 1, 0, none⟩) ((HFAR.out (b12 + 1) (by omega) (by omega) (by omega) HL13.out).2.2.1)).trans p0, (World.cell?_of_block (a := ⟨b12 + 1, 1, none⟩) ((HFAR.out (b12 + 1) (by omega) (by omega) (by omega) HL13.out).2.2.1)).trans p1⟩ (fun hHeld => ?_)
       clear hK K
       refine pure_ (i := 11) (N := some 90) (v := ?_) (a' := ?_) #[true, true, true, true, true, true, true, true, true, true, true, true, false, false, false] rfl rfl (by kernel_rfl) (fun _ _ _ h => h) (Or.inl ⟨by rfl, ?_⟩) ?_ ?_
       rotate_left
       ·
        intro w'
        go_simp
        with_reducible rfl
       rotate_left
       ·
        simp only [Act.put, List.setIfInBounds_toArray, List.set_cons_zero, List.set_cons_succ, i64_w, i32_w]
        rfl
       refine one_ (i := 12) (N := none) #[true, true, true, true, true, true, true, true, true, true, true, true, true, false, false] rfl rfl (by kernel_rfl) (by decide) (fun K hK => ?_)
       have cc := HK2'.out.cell m1.toNat (by simp [hlens.out.1, hlens.out.2.1]; omega)
       have cf := HK2'.out.frozen m1.toNat
       refine skip_ (w1 := V3) (by rfl) rfl ?_ ?_
       ·
        rw [HW3.out]
        go_simp
       clear cc cf
       refine hK.out _ _ ⟨(World.cell?_of_block (a := ⟨b12, 0, none⟩) ((HFAR.out (b12) (by omega) (by omega) (by omega) HL12.out).2.1)).trans k0, (World.cell?_of_block (a := ⟨b12, 1, none⟩) ((HFAR.out (b12) (by omega) (by omega) (by omega) HL12.out).2.1)).trans k1, (World.cell?_of_block (a := ⟨b12, 2, none⟩) ((HFAR.out (b12) (by omega) (by omega) (by omega) HL12.out).2.1)).trans k2, (World.cell?_of_block (a := ⟨b12 + 1, 0, none⟩) ((HFAR.out (b12 + 1) (by omega) (by omega) (by omega) HL13.out).2.1)).trans p0, (World.cell?_of_block (a := ⟨b12 + 1, 1, none⟩) ((HFAR.out (b12 + 1) (by omega) (by omega) (by omega) HL13.out).2.1)).trans p1⟩ (fun hHeld => ?_)
       clear hK K
       refine pure_ (i := 13) (N := some 91) (v := ?_) (a' := ?_) #[true, true, true, true, true, true, true, true, true, true, true, true, true, true, false] rfl rfl (by kernel_rfl) (fun _ _ _ h => h) (Or.inl ⟨by rfl, ?_⟩) ?_ ?_
       rotate_left
       ·
        intro w'
        go_simp
        with_reducible rfl
       rotate_left
       ·
        simp only [Act.put, List.setIfInBounds_toArray, List.set_cons_zero, List.set_cons_succ, i64_w, i32_w]
        rfl
       refine one_ (i := 14) (N := none) #[true, true, true, true, true, true, true, true, true, true, true, true, true, true, true] rfl rfl (by kernel_rfl) (by decide) (fun K hK => ?_)
       have cc := HT3'.out.cell m2.toNat (by simp [hlens.out.1, hlens.out.2.1]; omega)
       have cf := HT3'.out.frozen m2.toNat
       refine skip_ (w1 := V4) (by rfl) rfl ?_ ?_
       ·
        rw [HW4.out]
        go_simp
       clear cc cf
       refine hK.out _ _ ⟨(World.cell?_of_block (a := ⟨b12, 0, none⟩) ((HFAR.out (b12) (by omega) (by omega) (by omega) HL12.out).1)).trans k0, (World.cell?_of_block (a := ⟨b12, 1, none⟩) ((HFAR.out (b12) (by omega) (by omega) (by omega) HL12.out).1)).trans k1, (World.cell?_of_block (a := ⟨b12, 2, none⟩) ((HFAR.out (b12) (by omega) (by omega) (by omega) HL12.out).1)).trans k2, (World.cell?_of_block (a := ⟨b12 + 1, 0, none⟩) ((HFAR.out (b12 + 1) (by omega) (by omega) (by omega) HL13.out).1)).trans p0, (World.cell?_of_block (a := ⟨b12 + 1, 1, none⟩) ((HFAR.out (b12 + 1) (by omega) (by omega) (by omega) HL13.out).1)).trans p1⟩ (fun hHeld => ?_)
       clear hK K
       refine done_ (by kernel_rfl) ?_
       have HU4 : Aside0 (ArrAt V4 w.heap.size 110 u') := ⟨(HFAR.out w.heap.size (by omega) (by omega) (by omega) (blk_lt HUc.out)).1.trans HUc.out⟩
       have HM4 : Aside0 (MapAt V4 (w.heap.size + 1) (met' ++ [(m0, m1)])) := ⟨by
        have f2 : V2.heap[w.heap.size + 1]? = V1.heap[w.heap.size + 1]? := by rw [HW2.out]; exact Below.heap_setCell V1 ⟨b9, _, none⟩ _ _ (show w.heap.size + 1 ≠ b9 by omega)
        have f3 : V3.heap[w.heap.size + 1]? = V2.heap[w.heap.size + 1]? := by rw [HW3.out]; exact Below.heap_setCell V2 ⟨b9, _, none⟩ _ _ (show w.heap.size + 1 ≠ b9 by omega)
        have f4 : V4.heap[w.heap.size + 1]? = V3.heap[w.heap.size + 1]? := by rw [HW4.out]; exact Below.heap_setCell V3 ⟨b9 + 1, _, none⟩ _ _ (show w.heap.size + 1 ≠ b9 + 1 by omega)
        exact (f4.trans (f3.trans f2)).trans HV2.out⟩
       have HB4 : Aside0 (Below w.heap.size w V4) := ⟨by
        have h1 : Below w.heap.size w V1 := (below_drew1 HBc.out).grown HV3.out (by exact HBc.out.size) (fun k e => by injection e; omega)
        rw [HW4.out, HW3.out, HW2.out]
        exact below_store (below_store (below_store h1 b9 _ (by omega) _) b9 _ (by omega) _) (b9 + 1) _ (by omega) _⟩
       have d0 : V4.cell? ⟨b12, 0, none⟩ = some (.int .i64 m0) := (World.cell?_of_block (a := ⟨b12, 0, none⟩) (HFAR.out b12 (by omega) (by omega) (by omega) HL12.out).1).trans k0
       have d1 : V4.cell? ⟨b12, 1, none⟩ = some (.int .i64 m1) := (World.cell?_of_block (a := ⟨b12, 1, none⟩) (HFAR.out b12 (by omega) (by omega) (by omega) HL12.out).1).trans k1
       have d2 : V4.cell? ⟨b12, 2, none⟩ = some (.int .i64 m2) := (World.cell?_of_block (a := ⟨b12, 2, none⟩) (HFAR.out b12 (by omega) (by omega) (by omega) HL12.out).1).trans k2
       have gu : b12 ≠ w.heap.size := by omega
       clear k0 k1 k2 p0 p1
       have ua := HU4.out.cell (m0.toNat * 3 + m2.toNat) (by rw [hlens.out.2.2]; omega)
       have uaf := HU4.out.frozen (m0.toNat * 3 + m2.toNat)
       go_upto_region 14 with fail
       go_still_tail 10, (by kernel_rfl)
       change wpList _ _ _ _ _ V4.drew
       have ua2 : V4.drew.cell? ⟨w.heap.size, m0.toNat * 3 + m2.toNat, none⟩ = some (.int .i64 (u'.getD (m0.toNat * 3 + m2.toNat) 0)) := ua
       have uaf2 : V4.drew.frozen? ⟨w.heap.size, m0.toNat * 3 + m2.toNat, none⟩ = false := uaf
       have e0 : V4.drew.cell? ⟨b12, 0, none⟩ = _ := d0
       have e1 : V4.drew.cell? ⟨b12, 1, none⟩ = _ := d1
       have e2 : V4.drew.cell? ⟨b12, 2, none⟩ = _ := d2
       clear ua uaf d0 d1 d2
       go_upto_region 15 with fail
       clear ua2 uaf2
       obtain ⟨V5, hV5⟩ : ∃ W, W = (V4.setCell ⟨w.heap.size, m0.toNat * 3 + m2.toNat, none⟩ (.int .i64 (wrap64 (u'[m0.toNat * 3 + m2.toNat]?.getD 0 + 1)))).drew := ⟨_, rfl⟩
       rw [← hV5]
       have HU5 : Aside0 (ArrAt V5 w.heap.size 110 (useAt u' m0 m2 1)) := ⟨by
        rw [hV5]
        unfold useAt
        rw [List.getD_eq_getElem?_getD]
        exact HU4.out.set _ _⟩
       have hsm : ∀ k, k ≠ w.heap.size → V5.heap[k]? = V4.heap[k]? := fun k hk => by rw [hV5]; exact Below.heap_setCell V4 ⟨w.heap.size, _, none⟩ _ k hk
       have HM5 : Aside0 (MapAt V5 (w.heap.size + 1) (met' ++ [(m0, m1)])) := ⟨(hsm _ (by omega)).trans HM4.out⟩
       have HK5 : Aside0 (BArr V5 b9 137 ((busy.set m0.toNat true).set m1.toNat true)) := ⟨HK4'.out.same (hsm _ (by omega))⟩
       have HT5 : Aside0 (BArr V5 (b9 + 1) 138 (taken.set m2.toNat true)) := ⟨HT4'.out.same (hsm _ (by omega))⟩
       have HB5 : Aside0 (Below w.heap.size w V5) := ⟨by rw [hV5]; exact below_drew1 (below_store HB4.out _ _ (Nat.le_refl _) _)⟩
       have d1 : V5.cell? ⟨b12, 1, none⟩ = some (.int .i64 m1) := (World.cell?_of_block (a := ⟨b12, 1, none⟩) (hsm b12 gu)).trans e1
       have d2 : V5.cell? ⟨b12, 2, none⟩ = some (.int .i64 m2) := (World.cell?_of_block (a := ⟨b12, 2, none⟩) (hsm b12 gu)).trans e2
       clear e0 e1 e2 hsm hV5
       have ua := HU5.out.cell (m1.toNat * 3 + m2.toNat) (by simp [useAt, hlens.out.2.2]; omega)
       have uaf := HU5.out.frozen (m1.toNat * 3 + m2.toNat)
       go_still_tail 10, (by kernel_rfl)
       change wpList _ _ _ _ _ V5.drew
       have ua2 : V5.drew.cell? ⟨w.heap.size, m1.toNat * 3 + m2.toNat, none⟩ = some (.int .i64 ((useAt u' m0 m2 1).getD (m1.toNat * 3 + m2.toNat) 0)) := ua
       have uaf2 : V5.drew.frozen? ⟨w.heap.size, m1.toNat * 3 + m2.toNat, none⟩ = false := uaf
       have e1 : V5.drew.cell? ⟨b12, 1, none⟩ = _ := d1
       have e2 : V5.drew.cell? ⟨b12, 2, none⟩ = _ := d2
       clear ua uaf d1 d2
       go_upto_region 16 with fail
       clear ua2 uaf2 e1 e2
       obtain ⟨V6, hV6⟩ : ∃ W, W = (V5.setCell ⟨w.heap.size, m1.toNat * 3 + m2.toNat, none⟩ (.int .i64 (wrap64 ((useAt u' m0 m2 1)[m1.toNat * 3 + m2.toNat]?.getD 0 + 1)))).drew := ⟨_, rfl⟩
       rw [← hV6]
       have HU6 : Aside0 (ArrAt V6 w.heap.size 110 (useM u' ⟨m0, m1, m2⟩)) := ⟨by
        rw [hV6]
        unfold useM
        have := HU5.out.set (m1.toNat * 3 + m2.toNat) (wrap64 ((useAt u' m0 m2 1)[m1.toNat * 3 + m2.toNat]?.getD 0 + 1))
        rw [← List.getD_eq_getElem?_getD] at this ⊢
        exact this⟩
       have hsm : ∀ k, k ≠ w.heap.size → V6.heap[k]? = V5.heap[k]? := fun k hk => by rw [hV6]; exact Below.heap_setCell V5 ⟨w.heap.size, _, none⟩ _ k hk
       have HM6 : Aside0 (MapAt V6 (w.heap.size + 1) (met' ++ [(m0, m1)])) := ⟨(hsm _ (by omega)).trans HM5.out⟩
       have HK6 : Aside0 (BArr V6 b9 137 ((busy.set m0.toNat true).set m1.toNat true)) := ⟨HK5.out.same (hsm _ (by omega))⟩
       have HT6 : Aside0 (BArr V6 (b9 + 1) 138 (taken.set m2.toNat true)) := ⟨HT5.out.same (hsm _ (by omega))⟩
       have HB6 : Aside0 (Below w.heap.size w V6) := ⟨by rw [hV6]; exact below_drew1 (below_store HB5.out _ _ (Nat.le_refl _) _)⟩
       have HX6 : Hid ((roundR n h (row.drop (j + 1)) (met' ++ [(m0, m1)]) ((busy.set m0.toNat true).set m1.toNat true) (taken.set m2.toNat true) (useM u' ⟨m0, m1, m2⟩)).bind (fun p => allR n h (s.drop (k + 1)) p.1 p.2) = R) := by
        have h1 := hX2.out
        rw [HD.out] at h1
        unfold roundR at h1
        rw [if_neg (by rw [HBAD.out]; decide)] at h1
        exact h1
       clear hsm hV6
       go_wp2
       go_roundw
       case rel => exact ⟨j + 1, _, _, _, _, by simp, by omega, ⟨HX6.out⟩, ⟨by simp [hlens.out.1], by simp [hlens.out.2.1], by simp [useM, useAt, hlens.out.2.2]⟩, HU6, HM6, HK6, HT6, HB6⟩
       case measure => simp [intOf]; omega
    ·
     obtain rfl : j = row.length := by omega
     have hX3 : allR n h (s.drop (k + 1)) met' u' = R := by
      have := hX2.out
      rw [List.drop_length] at this
      exact this
     have HX3 := Lib.hid hX3
     clear hX3
     go_wp2
     go_roundw
     case rel => exact ⟨k + 1, met', u', by simp, by omega, ⟨HX3.out⟩, ⟨hlens.out.2.2⟩, hU2, hM2, hB2⟩
     case measure => simp [intOf]; omega
  ·
   obtain rfl : k = s.length := by omega
   have hX3 : some (met, u) = R := by
    have := hX.out
    rw [List.drop_length] at this
    exact this
   have HRT : Hid (rightF n h s = (u, decide ((s.length : Int) = n - 1 + Int.tmod n 2) && decide ((met.length : Int) = Int.tdiv (n * (n - 1)) 2))) := by
    show _ = _
    unfold rightF
    rw [HRR.out, ← hX3]
    rfl
   have HLD : Hid (∀ (W : World), ArrAt W w.heap.size 110 u → (loadVar 110 ⟨w.heap.size, 0, none⟩).run Try.prog W = .ok (.agg (arrV u)) W) := by
    intro W hu
    refine run_loadVar_row W w.heap.size 110 110 (arrV u) (0, 0) (.array 6 108) hu (by kernel_rfl) rfl ?_
    have : (arrV u).size = 18 := by simp [arrV, hul.out]
    rw [this]
    rfl
   have HCN : Hid (league_count.f n = some (n - 1 + Int.tmod n 2)) := by
    show _ = _
    unfold league_count.f
    have : n = 2 ∨ n = 3 ∨ n = 4 ∨ n = 5 ∨ n = 6 := by omega
    rcases this with rfl | rfl | rfl | rfl | rfl <;> (unfold wrap64; decide)
   have u0 := hU.out
   have m0 : wr.heap[w.heap.size + 1]? = some (.map (mapOf met).toArray met.length) := hM.out
   have HCNT := HCN.out
   obtain ⟨cnt, hcnt⟩ : ∃ cnt, n - 1 + Int.tmod n 2 = cnt := ⟨_, rfl⟩
   rw [hcnt] at HCN HRT
   clear hcnt HCNT
   by_cases hc : (s.length : Int) = cnt
   ·
    have b1 : ((s.length : Int) == cnt) = true := beq_iff_eq.2 hc
    have HC := Lib.hid hc
    clear hc
    go_upto_region 18 with fail
    refine start_ (n := 18) (S := fun w' => w'.heap[w.heap.size]? = some (.cells (arrV u) 110 (0, 0)) ∧ w'.heap[w.heap.size + 1]? = some (.map (mapOf met).toArray met.length)) (ds := [16]) #[false, false, false, false, false, false, false, false, false, false, false, false, false, false, false, false, false, false] (by kernel_rfl) rfl rfl ⟨u0, m0⟩ (fun hHeld => ?_)
    refine pure_ (i := 1) (N := some 115) (v := ?_) (a' := ?_) #[false, true, false, false, false, false, false, false, false, false, false, false, false, false, false, false, false, false] rfl rfl (by kernel_rfl) (fun _ _ _ h => h) (Or.inl ⟨by rfl, ?_⟩) ?_ ?_
    rotate_left
    ·
     intro w'
     go_simp
     with_reducible rfl
    rotate_left
    ·
     simp only [Act.put, List.setIfInBounds_toArray, List.set_cons_zero, List.set_cons_succ, i64_w, i32_w]
     rfl
    refine pure_ (i := 2) (N := some 116) (v := ?_) (a' := ?_) #[false, true, true, false, false, false, false, false, false, false, false, false, false, false, false, false, false, false] rfl rfl (by kernel_rfl) (fun _ _ _ h => h) (Or.inl ⟨by rfl, ?_⟩) ?_ ?_
    rotate_left
    ·
     intro w'
     go_simp
     with_reducible rfl
    rotate_left
    ·
     simp only [Act.put, List.setIfInBounds_toArray, List.set_cons_zero, List.set_cons_succ, i64_w, i32_w]
     rfl
    refine pure_ (i := 3) (N := some 117) (v := ?_) (a' := ?_) #[false, true, true, true, false, false, false, false, false, false, false, false, false, false, false, false, false, false] rfl rfl (by kernel_rfl) (fun _ _ _ h => h) (Or.inl ⟨by rfl, ?_⟩) ?_ ?_
    rotate_left
    ·
     intro w'
     go_simp
     with_reducible rfl
    rotate_left
    ·
     simp only [Act.put, List.setIfInBounds_toArray, List.set_cons_zero, List.set_cons_succ, i64_w, i32_w]
     rfl
    refine take_ (i := 0) (N := some 114) (v := .agg (arrV u)) (a' := ?_) #[true, true, true, true, false, false, false, false, false, false, false, false, false, false, false, false, false, false] rfl rfl (by kernel_rfl) (fun _ _ _ h => h) (Or.inl ⟨by rfl, ?_⟩) hHeld ?_ ?_
    ·
     rintro w' ⟨s0, s1⟩
     exact load_exec (t := 110) (p := .tmp 4) (ad := ⟨w.heap.size, 0, none⟩) rfl rfl (HLD.out _ s0)
    rotate_left
    ·
     simp only [Act.put, List.setIfInBounds_toArray, List.set_cons_zero, List.set_cons_succ, i64_w, i32_w]
     rfl
    refine one_ (i := 4) (N := some 118) #[true, true, true, true, true, false, false, false, false, false, false, false, false, false, false, false, false, false] rfl rfl (by kernel_rfl) (by decide) (fun K hK => ?_)
    refine goes_ Try.func96 (by kernel_rfl) rfl #[.int .i64 n] (by rfl) rfl rfl (by simp only [List.map_toArray, List.map_cons, List.map_nil]; rfl) ?_
    with_reducible refine (league_count.calls n cnt _ HCN.out).mono ?_
    rintro e w4 ⟨rfl, hd4⟩
    refine ⟨_, rfl, ?_⟩
    have hb4 := hd4.below
    have HB4 := Aside0.mk hb4
    have q1 := blk_below hHeld.1 hb4
    have q2 := blk_below hHeld.2 hb4
    clear hb4 hd4
    refine hK.out _ _ ⟨q1, q2⟩ (fun hHeld => ?_)
    clear hK K
    refine norm_ (a' := ?_) ?_ ?_
    rotate_left
    ·
     show Act.put _ (some 118) _ = _
     simp only [Act.put, List.setIfInBounds_toArray, List.set_cons_zero, List.set_cons_succ, i64_w, i32_w]
     rfl
    refine pure_ (i := 5) (N := some 119) (v := ?_) (a' := ?_) #[true, true, true, true, true, true, false, false, false, false, false, false, false, false, false, false, false, false] rfl rfl (by kernel_rfl) (fun _ _ _ h => h) (Or.inl ⟨by rfl, ?_⟩) ?_ ?_
    rotate_left
    ·
     intro w'
     go_simp
     with_reducible rfl
    rotate_left
    ·
     simp only [Act.put, List.setIfInBounds_toArray, List.set_cons_zero, List.set_cons_succ, i64_w, i32_w]
     rfl
    refine pure_ (i := 6) (N := some 120) (v := ?_) (a' := ?_) #[true, true, true, true, true, true, true, false, false, false, false, false, false, false, false, false, false, false] rfl rfl (by kernel_rfl) (fun _ _ _ h => h) (Or.inl ⟨by rfl, ?_⟩) ?_ ?_
    rotate_left
    ·
     intro w'
     go_simp
     with_reducible rfl
    rotate_left
    ·
     simp only [Act.put, List.setIfInBounds_toArray, List.set_cons_zero, List.set_cons_succ, i64_w, i32_w]
     rfl
    refine pure_ (i := 7) (N := some 121) (v := ?_) (a' := ?_) #[true, true, true, true, true, true, true, true, false, false, false, false, false, false, false, false, false, false] rfl rfl (by kernel_rfl) (fun _ _ _ h => h) (Or.inl ⟨by rfl, ?_⟩) ?_ ?_
    rotate_left
    ·
     intro w'
     go_simp
     with_reducible rfl
    rotate_left
    ·
     simp only [Act.put, List.setIfInBounds_toArray, List.set_cons_zero, List.set_cons_succ, i64_w, i32_w]
     rfl
    refine pure_ (i := 9) (N := some 123) (v := ?_) (a' := ?_) #[true, true, true, true, true, true, true, true, false, true, false, false, false, false, false, false, false, false] rfl rfl (by kernel_rfl) (fun _ _ _ h => h) (Or.inl ⟨by rfl, ?_⟩) ?_ ?_
    rotate_left
    ·
     intro w'
     go_simp
     with_reducible rfl
    rotate_left
    ·
     simp only [Act.put, List.setIfInBounds_toArray, List.set_cons_zero, List.set_cons_succ, i64_w, i32_w]
     rfl
    refine pure_ (i := 10) (N := some 124) (v := ?_) (a' := ?_) #[true, true, true, true, true, true, true, true, false, true, true, false, false, false, false, false, false, false] rfl rfl (by kernel_rfl) (fun _ _ _ h => h) (Or.inl ⟨by rfl, ?_⟩) ?_ ?_
    rotate_left
    ·
     intro w'
     go_simp
     with_reducible rfl
    rotate_left
    ·
     simp only [Act.put, List.setIfInBounds_toArray, List.set_cons_zero, List.set_cons_succ, i64_w, i32_w]
     rfl
    refine pure_ (i := 11) (N := some 125) (v := ?_) (a' := ?_) #[true, true, true, true, true, true, true, true, false, true, true, true, false, false, false, false, false, false] rfl rfl (by kernel_rfl) (fun _ _ _ h => h) (Or.inl ⟨by rfl, ?_⟩) ?_ ?_
    rotate_left
    ·
     intro w'
     go_simp
     with_reducible rfl
    rotate_left
    ·
     simp only [Act.put, List.setIfInBounds_toArray, List.set_cons_zero, List.set_cons_succ, i64_w, i32_w]
     rfl
    refine pure_ (i := 12) (N := some 126) (v := ?_) (a' := ?_) #[true, true, true, true, true, true, true, true, false, true, true, true, true, false, false, false, false, false] rfl rfl (by kernel_rfl) (fun _ _ _ h => h) (Or.inl ⟨by rfl, ?_⟩) ?_ ?_
    rotate_left
    ·
     intro w'
     go_simp
     with_reducible rfl
    rotate_left
    ·
     simp only [Act.put, List.setIfInBounds_toArray, List.set_cons_zero, List.set_cons_succ, i64_w, i32_w]
     rfl
    refine pure_ (i := 13) (N := some 127) (v := ?_) (a' := ?_) #[true, true, true, true, true, true, true, true, false, true, true, true, true, true, false, false, false, false] rfl rfl (by kernel_rfl) (fun _ _ _ h => h) (Or.inl ⟨by rfl, ?_⟩) ?_ ?_
    rotate_left
    ·
     intro w'
     go_simp
     with_reducible rfl
    rotate_left
    ·
     simp only [Act.put, List.setIfInBounds_toArray, List.set_cons_zero, List.set_cons_succ, i64_w, i32_w]
     rfl
    refine one_ (i := 8) (N := some 122) #[true, true, true, true, true, true, true, true, true, true, true, true, true, true, false, false, false, false] rfl rfl (by kernel_rfl) (by decide) (fun K hK => ?_)
    refine value_ (w1 := w4) (v := .int .i64 met.length) (by rfl) rfl (len_exec (p := .tmp 121) (b := w.heap.size + 1) rfl rfl hHeld.2 (by simp [mapOf])) ?_
    refine hK.out _ _ ⟨hHeld.1, hHeld.2⟩ (fun hHeld => ?_)
    clear hK K
    refine norm_ (a' := ?_) ?_ ?_
    rotate_left
    ·
     show Act.put _ (some 122) _ = _
     simp only [Act.put, List.setIfInBounds_toArray, List.set_cons_zero, List.set_cons_succ, i64_w, i32_w]
     rfl
    refine pure_ (i := 14) (N := some 128) (v := ?_) (a' := ?_) #[true, true, true, true, true, true, true, true, true, true, true, true, true, true, true, false, false, false] rfl rfl (by kernel_rfl) (fun _ _ _ h => h) (Or.inl ⟨by rfl, ?_⟩) ?_ ?_
    rotate_left
    ·
     intro w'
     go_simp
     with_reducible rfl
    rotate_left
    ·
     simp only [Act.put, List.setIfInBounds_toArray, List.set_cons_zero, List.set_cons_succ, i64_w, i32_w]
     rfl
    refine pure_ (i := 15) (N := some 129) (v := ?_) (a' := ?_) #[true, true, true, true, true, true, true, true, true, true, true, true, true, true, true, true, false, false] rfl rfl (by kernel_rfl) (fun _ _ _ h => h) (Or.inl ⟨by rfl, ?_⟩) ?_ ?_
    rotate_left
    ·
     intro w'
     go_simp
     with_reducible rfl
    rotate_left
    ·
     simp only [Act.put, List.setIfInBounds_toArray, List.set_cons_zero, List.set_cons_succ, i64_w, i32_w]
     rfl
    refine last_ (i := 16) (N := none) #[true, true, true, true, true, true, true, true, true, true, true, true, true, true, true, true, true, false] rfl rfl (by kernel_rfl) (by decide) (fun K hK => ?_)
    refine skip_ (w1 := w4.setRow w.heap.size (arrV u)) (by rfl) rfl (store_exec (t := 110) (p := .tmp 4) (ad := ⟨w.heap.size, 0, none⟩) (val := .agg (arrV u)) rfl rfl rfl (run_storeVar_row (P := Try.prog) w4 w.heap.size 110 110 (arrV u) (arrV u) hHeld.1 (by rw [show (arrV u).size = 18 from by simp [arrV, hul.out]]; rfl) rfl (by simp [arrV, Value.oneCell']))) ?_
    refine hK.out _ _ ?_
    clear hK K
    refine pure_ (i := 17) (N := some 5) (v := ?_) (a' := ?_) #[true, true, true, true, true, true, true, true, true, true, true, true, true, true, true, true, true, true] rfl rfl (by kernel_rfl) (fun _ _ _ h => h) (Or.inl ⟨by rfl, ?_⟩) ?_ ?_
    rotate_left
    ·
     intro w'
     go_simp
     with_reducible rfl
    rotate_left
    ·
     simp only [Act.put, List.setIfInBounds_toArray, List.set_cons_zero, List.set_cons_succ, i64_w, i32_w]
     rfl
    refine done_ (by kernel_rfl) ?_
    have hcv : decide ((met.length : Int) = Int.tdiv (n * (n - 1)) 2) = ((met.length : Int) == wrap64 (Int.tdiv (wrap64 (n * wrap64 (n - 1))) 2)) := by
     rw [show wrap64 (Int.tdiv (wrap64 (n * wrap64 (n - 1))) 2) = Int.tdiv (n * (n - 1)) 2 from by (have : n = 2 ∨ n = 3 ∨ n = 4 ∨ n = 5 ∨ n = 6 := by omega); rcases this with rfl | rfl | rfl | rfl | rfl <;> (unfold wrap64; decide)]
     rfl
    have HF : Hid (rightF n h s = (u, ((met.length : Int) == wrap64 (Int.tdiv (wrap64 (n * wrap64 (n - 1))) 2)))) := by
     show _ = _
     rw [HRT.out, decide_eq_true HC.out, Bool.true_and, hcv]
    clear hcv
    have HBF : Aside0 (Below w.heap.size w w4) := ⟨(below_drew1 hB.out).trans (HB4.out.mono (below_drew1 hB.out).size)⟩
    have hA := hHeld.1
    have HA := Aside0.mk hA
    clear hA
    go_wp2
    exact bodyPost_ret (res66 (setRow_arr HA.out) hul.out rfl rfl) rfl ⟨by rw [HF.out], setRow_below HBF.out _ (Nat.le_refl _) _⟩
   ·
    have b1 : ((s.length : Int) == cnt) = false := beq_eq_false_iff_ne.2 hc
    have HC := Lib.hid hc
    clear hc
    go_upto_region 18 with fail
    refine start_ (n := 18) (S := fun w' => w'.heap[w.heap.size]? = some (.cells (arrV u) 110 (0, 0)) ∧ w'.heap[w.heap.size + 1]? = some (.map (mapOf met).toArray met.length)) (ds := [16]) #[false, false, false, false, false, false, false, false, false, false, false, false, false, false, false, false, false, false] (by kernel_rfl) rfl rfl ⟨u0, m0⟩ (fun hHeld => ?_)
    refine pure_ (i := 1) (N := some 115) (v := ?_) (a' := ?_) #[false, true, false, false, false, false, false, false, false, false, false, false, false, false, false, false, false, false] rfl rfl (by kernel_rfl) (fun _ _ _ h => h) (Or.inl ⟨by rfl, ?_⟩) ?_ ?_
    rotate_left
    ·
     intro w'
     go_simp
     with_reducible rfl
    rotate_left
    ·
     simp only [Act.put, List.setIfInBounds_toArray, List.set_cons_zero, List.set_cons_succ, i64_w, i32_w]
     rfl
    refine pure_ (i := 2) (N := some 116) (v := ?_) (a' := ?_) #[false, true, true, false, false, false, false, false, false, false, false, false, false, false, false, false, false, false] rfl rfl (by kernel_rfl) (fun _ _ _ h => h) (Or.inl ⟨by rfl, ?_⟩) ?_ ?_
    rotate_left
    ·
     intro w'
     go_simp
     with_reducible rfl
    rotate_left
    ·
     simp only [Act.put, List.setIfInBounds_toArray, List.set_cons_zero, List.set_cons_succ, i64_w, i32_w]
     rfl
    refine pure_ (i := 3) (N := some 117) (v := ?_) (a' := ?_) #[false, true, true, true, false, false, false, false, false, false, false, false, false, false, false, false, false, false] rfl rfl (by kernel_rfl) (fun _ _ _ h => h) (Or.inl ⟨by rfl, ?_⟩) ?_ ?_
    rotate_left
    ·
     intro w'
     go_simp
     with_reducible rfl
    rotate_left
    ·
     simp only [Act.put, List.setIfInBounds_toArray, List.set_cons_zero, List.set_cons_succ, i64_w, i32_w]
     rfl
    refine take_ (i := 0) (N := some 114) (v := .agg (arrV u)) (a' := ?_) #[true, true, true, true, false, false, false, false, false, false, false, false, false, false, false, false, false, false] rfl rfl (by kernel_rfl) (fun _ _ _ h => h) (Or.inl ⟨by rfl, ?_⟩) hHeld ?_ ?_
    ·
     rintro w' ⟨s0, s1⟩
     exact load_exec (t := 110) (p := .tmp 4) (ad := ⟨w.heap.size, 0, none⟩) rfl rfl (HLD.out _ s0)
    rotate_left
    ·
     simp only [Act.put, List.setIfInBounds_toArray, List.set_cons_zero, List.set_cons_succ, i64_w, i32_w]
     rfl
    refine one_ (i := 4) (N := some 118) #[true, true, true, true, true, false, false, false, false, false, false, false, false, false, false, false, false, false] rfl rfl (by kernel_rfl) (by decide) (fun K hK => ?_)
    refine goes_ Try.func96 (by kernel_rfl) rfl #[.int .i64 n] (by rfl) rfl rfl (by simp only [List.map_toArray, List.map_cons, List.map_nil]; rfl) ?_
    with_reducible refine (league_count.calls n cnt _ HCN.out).mono ?_
    rintro e w4 ⟨rfl, hd4⟩
    refine ⟨_, rfl, ?_⟩
    have hb4 := hd4.below
    have HB4 := Aside0.mk hb4
    have q1 := blk_below hHeld.1 hb4
    have q2 := blk_below hHeld.2 hb4
    clear hb4 hd4
    refine hK.out _ _ ⟨q1, q2⟩ (fun hHeld => ?_)
    clear hK K
    refine norm_ (a' := ?_) ?_ ?_
    rotate_left
    ·
     show Act.put _ (some 118) _ = _
     simp only [Act.put, List.setIfInBounds_toArray, List.set_cons_zero, List.set_cons_succ, i64_w, i32_w]
     rfl
    refine pure_ (i := 5) (N := some 119) (v := ?_) (a' := ?_) #[true, true, true, true, true, true, false, false, false, false, false, false, false, false, false, false, false, false] rfl rfl (by kernel_rfl) (fun _ _ _ h => h) (Or.inl ⟨by rfl, ?_⟩) ?_ ?_
    rotate_left
    ·
     intro w'
     go_simp
     with_reducible rfl
    rotate_left
    ·
     simp only [Act.put, List.setIfInBounds_toArray, List.set_cons_zero, List.set_cons_succ, i64_w, i32_w]
     rfl
    refine pure_ (i := 6) (N := some 120) (v := ?_) (a' := ?_) #[true, true, true, true, true, true, true, false, false, false, false, false, false, false, false, false, false, false] rfl rfl (by kernel_rfl) (fun _ _ _ h => h) (Or.inl ⟨by rfl, ?_⟩) ?_ ?_
    rotate_left
    ·
     intro w'
     go_simp
     with_reducible rfl
    rotate_left
    ·
     simp only [Act.put, List.setIfInBounds_toArray, List.set_cons_zero, List.set_cons_succ, i64_w, i32_w]
     rfl
    refine pure_ (i := 7) (N := some 121) (v := undef) (a' := ?_) #[true, true, true, true, true, true, true, true, false, false, false, false, false, false, false, false, false, false] rfl rfl (by kernel_rfl) (fun _ _ _ h => h) (Or.inr ⟨by rfl, rfl⟩) ?_ ?_
    rotate_left
    ·
     simp only [Act.put, List.setIfInBounds_toArray, List.set_cons_zero, List.set_cons_succ, i64_w, i32_w]
     rfl
    refine pure_ (i := 8) (N := some 122) (v := undef) (a' := ?_) #[true, true, true, true, true, true, true, true, true, false, false, false, false, false, false, false, false, false] rfl rfl (by kernel_rfl) (fun _ _ _ h => h) (Or.inr ⟨by rfl, rfl⟩) ?_ ?_
    rotate_left
    ·
     simp only [Act.put, List.setIfInBounds_toArray, List.set_cons_zero, List.set_cons_succ, i64_w, i32_w]
     rfl
    refine pure_ (i := 9) (N := some 123) (v := undef) (a' := ?_) #[true, true, true, true, true, true, true, true, true, true, false, false, false, false, false, false, false, false] rfl rfl (by kernel_rfl) (fun _ _ _ h => h) (Or.inr ⟨by rfl, rfl⟩) ?_ ?_
    rotate_left
    ·
     simp only [Act.put, List.setIfInBounds_toArray, List.set_cons_zero, List.set_cons_succ, i64_w, i32_w]
     rfl
    refine pure_ (i := 10) (N := some 124) (v := undef) (a' := ?_) #[true, true, true, true, true, true, true, true, true, true, true, false, false, false, false, false, false, false] rfl rfl (by kernel_rfl) (fun _ _ _ h => h) (Or.inr ⟨by rfl, rfl⟩) ?_ ?_
    rotate_left
    ·
     simp only [Act.put, List.setIfInBounds_toArray, List.set_cons_zero, List.set_cons_succ, i64_w, i32_w]
     rfl
    refine pure_ (i := 11) (N := some 125) (v := undef) (a' := ?_) #[true, true, true, true, true, true, true, true, true, true, true, true, false, false, false, false, false, false] rfl rfl (by kernel_rfl) (fun _ _ _ h => h) (Or.inr ⟨by rfl, rfl⟩) ?_ ?_
    rotate_left
    ·
     simp only [Act.put, List.setIfInBounds_toArray, List.set_cons_zero, List.set_cons_succ, i64_w, i32_w]
     rfl
    refine pure_ (i := 12) (N := some 126) (v := undef) (a' := ?_) #[true, true, true, true, true, true, true, true, true, true, true, true, true, false, false, false, false, false] rfl rfl (by kernel_rfl) (fun _ _ _ h => h) (Or.inr ⟨by rfl, rfl⟩) ?_ ?_
    rotate_left
    ·
     simp only [Act.put, List.setIfInBounds_toArray, List.set_cons_zero, List.set_cons_succ, i64_w, i32_w]
     rfl
    refine pure_ (i := 13) (N := some 127) (v := undef) (a' := ?_) #[true, true, true, true, true, true, true, true, true, true, true, true, true, true, false, false, false, false] rfl rfl (by kernel_rfl) (fun _ _ _ h => h) (Or.inr ⟨by rfl, rfl⟩) ?_ ?_
    rotate_left
    ·
     simp only [Act.put, List.setIfInBounds_toArray, List.set_cons_zero, List.set_cons_succ, i64_w, i32_w]
     rfl
    refine pure_ (i := 14) (N := some 128) (v := undef) (a' := ?_) #[true, true, true, true, true, true, true, true, true, true, true, true, true, true, true, false, false, false] rfl rfl (by kernel_rfl) (fun _ _ _ h => h) (Or.inr ⟨by rfl, rfl⟩) ?_ ?_
    rotate_left
    ·
     simp only [Act.put, List.setIfInBounds_toArray, List.set_cons_zero, List.set_cons_succ, i64_w, i32_w]
     rfl
    refine pure_ (i := 15) (N := some 129) (v := ?_) (a' := ?_) #[true, true, true, true, true, true, true, true, true, true, true, true, true, true, true, true, false, false] rfl rfl (by kernel_rfl) (fun _ _ _ h => h) (Or.inl ⟨by rfl, ?_⟩) ?_ ?_
    rotate_left
    ·
     intro w'
     go_simp
     with_reducible rfl
    rotate_left
    ·
     simp only [Act.put, List.setIfInBounds_toArray, List.set_cons_zero, List.set_cons_succ, i64_w, i32_w]
     rfl
    refine last_ (i := 16) (N := none) #[true, true, true, true, true, true, true, true, true, true, true, true, true, true, true, true, true, false] rfl rfl (by kernel_rfl) (by decide) (fun K hK => ?_)
    refine skip_ (w1 := w4.setRow w.heap.size (arrV u)) (by rfl) rfl (store_exec (t := 110) (p := .tmp 4) (ad := ⟨w.heap.size, 0, none⟩) (val := .agg (arrV u)) rfl rfl rfl (run_storeVar_row (P := Try.prog) w4 w.heap.size 110 110 (arrV u) (arrV u) hHeld.1 (by rw [show (arrV u).size = 18 from by simp [arrV, hul.out]]; rfl) rfl (by simp [arrV, Value.oneCell']))) ?_
    refine hK.out _ _ ?_
    clear hK K
    refine pure_ (i := 17) (N := some 5) (v := ?_) (a' := ?_) #[true, true, true, true, true, true, true, true, true, true, true, true, true, true, true, true, true, true] rfl rfl (by kernel_rfl) (fun _ _ _ h => h) (Or.inl ⟨by rfl, ?_⟩) ?_ ?_
    rotate_left
    ·
     intro w'
     go_simp
     with_reducible rfl
    rotate_left
    ·
     simp only [Act.put, List.setIfInBounds_toArray, List.set_cons_zero, List.set_cons_succ, i64_w, i32_w]
     rfl
    refine done_ (by kernel_rfl) ?_
    have HF : Hid (rightF n h s = (u, false)) := by
     show _ = _
     rw [HRT.out, decide_eq_false HC.out, Bool.false_and]
    have HBF : Aside0 (Below w.heap.size w w4) := ⟨(below_drew1 hB.out).trans (HB4.out.mono (below_drew1 hB.out).size)⟩
    have hA := hHeld.1
    have HA := Aside0.mk hA
    clear hA
    go_wp2
    exact bodyPost_ret (res66 (setRow_arr HA.out) hul.out rfl rfl) rfl ⟨by rw [HF.out], setRow_below HBF.out _ (Nat.le_refl _) _⟩
end Go.Proofs.Ytmnamkcjldaoeaa.PAll
namespace Go.Proofs.Ytmnamkcjldaoeaa.PAll
open Go.RowKit Go.Proofs.YtmnamkcjldaoeaaW.PrintWords Go.Proofs.YtmnamkcjldaoeaaW.PrintLast Go.Proofs.YtmnamkcjldaoeaaW.PrintMore
set_option linter.unusedVariables false
set_option linter.unusedSimpArgs false
abbrev PS := List Bool × List Int × List Int
def gameP (op : List S85) (gv : List Int) (i : Nat) (t : Int) : Int × Int × Int :=
 if (op.getD i z85).f1 = t then ((op.getD i z85).f0, wrap64 (2 - gv.getD i 0), 1) else ((op.getD i z85).f1, gv.getD i 0, -1)
def skipP (team : Int) (sn : List Bool) (g : S85) (t : Int) (q : Int × Int × Int) : Bool :=
 (g.f0 != t && g.f1 != t) || g.f0 == team || g.f1 == team || q.2.1 == 0 || sn.getD q.1.toNat false
def moveP (s : PS) (i : Nat) (t : Int) (q : Int × Int × Int) : PS :=
 (s.1, s.2.1.set i (wrap64 (s.2.1.getD i 0 + q.2.2)), (s.2.2.set t.toNat (wrap64 (s.2.2.getD t.toNat 0 - 1))).set q.1.toNat (wrap64 ((s.2.2.set t.toNat (wrap64 (s.2.2.getD t.toNat 0 - 1))).getD q.1.toNat 0 + 1)))
def loopP (rec : PS → Int → Option (Bool × PS)) (op : List S85) (team reach t : Int) : Nat → Nat → PS → Option (Bool × PS)
 | 0, _, s => some (false, s)
 | k + 1, i, s =>
  if skipP team s.1 (op.getD i z85) t (gameP op s.2.1 i t) = true then loopP rec op team reach t k (i + 1) s
  else if s.2.2.getD (gameP op s.2.1 i t).1.toNat 0 < reach then some (true, moveP s i t (gameP op s.2.1 i t))
  else (rec s (gameP op s.2.1 i t).1).bind fun x => if x.1 = true then some (true, moveP x.2 i t (gameP op s.2.1 i t)) else loopP rec op team reach t k (i + 1) x.2
def passF (op : List S85) (team reach : Int) : Nat → PS → Int → Option (Bool × PS)
 | 0, _, _ => none
 | d + 1, s, t => loopP (passF op team reach d) op team reach t op.length 0 (s.1.set t.toNat true, s.2)
def GivAt (w : World) (b : Nat) (xs : List Int) : Prop := ∃ cur, w.heap[b]? = some (.cells cur 3 (0, 0)) ∧ ∀ i, i < xs.length → cur[i]? = some (.int .i64 (xs.getD i 0))
section
variable {w w1 : World} {b : Nat} {xs : List Int}
theorem GivAt.cell (h : GivAt w b xs) (i : Nat) (hi : i < xs.length) : w.cell? ⟨b, i, none⟩ = some (.int .i64 (xs.getD i 0)) := by
 obtain ⟨cur, h1, h2⟩ := h
 exact (blk_cell h1 i).trans (h2 i hi)
theorem GivAt.frozen (h : GivAt w b xs) (i : Nat) : w.frozen? ⟨b, i, none⟩ = false := by
 obtain ⟨cur, h1, h2⟩ := h
 exact blk_frozen h1 i
theorem GivAt.same (h : GivAt w b xs) (hs : w1.heap[b]? = w.heap[b]?) : GivAt w1 b xs := by
 obtain ⟨cur, h1, h2⟩ := h
 exact ⟨cur, hs.trans h1, h2⟩
theorem GivAt.lt (h : GivAt w b xs) : b < w.heap.size := by
 obtain ⟨cur, h1, h2⟩ := h
 exact blk_lt h1
theorem GivAt.set (h : GivAt w b xs) (i : Nat) (v : Int) : GivAt (w.setCell ⟨b, i, none⟩ (.int .i64 v)) b (xs.set i v) := by
 obtain ⟨cur, h1, h2⟩ := h
 refine ⟨_, blk_set h1 i _, fun j hj => ?_⟩
 rw [List.length_set] at hj
 have hc := h2 j hj
 by_cases e : i = j
 ·
  subst e
  have : i < cur.size := (Array.getElem?_eq_some_iff.1 hc).1
  simp [List.getD_eq_getElem?_getD, this, hj]
 ·
  rw [Array.getElem?_setIfInBounds_ne e, hc, List.getD_eq_getElem?_getD, List.getD_eq_getElem?_getD, List.getElem?_set_ne e]
end
structure PB where
 bs : Nat
 bg : Nat
 bh : Nat
 b2 : Nat
 b3 : Nat
 b4 : Nat
 b : Nat
 team : Int
 reach : Int
 ys : List Int
 op : List S85
 gc : Nat
 g : Value
 Ao : Option Addr
 co : Nat
structure PB.N (p : PB) : Prop where
 e : p.bs ≠ p.bg ∧ p.bs ≠ p.bh ∧ p.bg ≠ p.bh
 e2 : p.b2 ≠ p.bs ∧ p.b2 ≠ p.bg ∧ p.b2 ≠ p.bh
 e3 : p.b3 ≠ p.bs ∧ p.b3 ≠ p.bg ∧ p.b3 ≠ p.bh
 e4 : p.b4 ≠ p.bs ∧ p.b4 ≠ p.bg ∧ p.b4 ≠ p.bh
 eb : p.b ≠ p.bs ∧ p.b ≠ p.bg ∧ p.b ≠ p.bh
 ea : ∀ ad, p.Ao = some ad → ad.block ≠ p.bs ∧ ad.block ≠ p.bg ∧ ad.block ≠ p.bh
abbrev PV (bs b2 b3 b4 : Nat) : Value := .func (.func 112) #[] #[.pointer (some ⟨bs, 0, none⟩), .pointer (some ⟨b2, 0, none⟩), .pointer (some ⟨b3, 0, none⟩), .pointer (some ⟨b4, 0, none⟩)]
structure PassW (p : PB) (w : World) (s : PS) : Prop where
 hs : BArr w p.bs 137 s.1
 sl : s.1.length = 6
 hg : p.op ≠ [] → GivAt w p.bg s.2.1
 gl : s.2.1.length = p.op.length
 hh : ArrAt w p.bh 102 s.2.2
 hl : s.2.2.length = 6
 h2 : w.heap[p.b2]? = some (.cells #[.pointer (some ⟨p.b, 0, none⟩)] 116 (0, 0))
 h3 : w.heap[p.b3]? = some (.cells #[.pointer (some ⟨p.bh, 0, none⟩)] 143 (0, 0))
 h4 : w.heap[p.b4]? = some (.cells #[PV p.bs p.b2 p.b3 p.b4] 86 (0, 0))
 hr : RaceAt w p.b p.team p.reach p.ys (.slice p.Ao p.op.length p.co) p.g
 ho : Kd.C k85 w p.Ao p.op.length p.op
 hgv : p.op ≠ [] → p.g = .slice (some ⟨p.bg, 0, none⟩) p.op.length p.gc
structure PB.Far (p : PB) (w w' : World) : Prop where
 os : w'.os = w.os
 tape : w'.tape = w.tape
 output : w'.output = w.output
 size : w.heap.size ≤ w'.heap.size
 block : ∀ k, k < w.heap.size → k ≠ p.bs → k ≠ p.bg → k ≠ p.bh → w'.heap[k]? = w.heap[k]?
section
variable {p : PB} {w w1 w2 : World} {s : PS}
theorem PB.Far.refl (p : PB) (w : World) : p.Far w w := ⟨rfl, rfl, rfl, Nat.le_refl _, fun _ _ _ _ _ => rfl⟩
theorem PB.Far.trans (h : p.Far w w1) (h1 : p.Far w1 w2) : p.Far w w2 :=
 ⟨h1.os.trans h.os, h1.tape.trans h.tape, h1.output.trans h.output, Nat.le_trans h.size h1.size, fun k k1 k2 k3 k4 => (h1.block k (Nat.lt_of_lt_of_le k1 h.size) k2 k3 k4).trans (h.block k k1 k2 k3 k4)⟩
theorem PB.Far.below (hb : Below w.heap.size w w1) : p.Far w w1 := ⟨hb.os, hb.tape, hb.output, hb.size, fun k k1 _ _ _ => hb.block k k1⟩
theorem PB.Far.set (w : World) (b i : Nat) (v : Value) (hb : b = p.bs ∨ b = p.bg ∨ b = p.bh) : p.Far w (w.setCell ⟨b, i, none⟩ v) :=
 ⟨rfl, rfl, rfl, by simp, fun k _ k2 k3 k4 => Below.heap_setCell w ⟨b, i, none⟩ v k (by show k ≠ b; rcases hb with rfl | rfl | rfl <;> assumption)⟩
theorem PassW.below (h : PassW p w s) (hb : Below w.heap.size w w1) : PassW p w1 s :=
 ⟨h.hs.below hb, h.sl, fun e => (h.hg e).same (hb.block _ (h.hg e).lt), h.gl, h.hh.below hb, h.hl, blk_below h.h2 hb, blk_below h.h3 hb, blk_below h.h4 hb, h.hr.below hb, Kd.C_below h.ho hb, h.hgv⟩
end
section
variable {p : PB} {w : World} {s : PS}
theorem C85_set {w : World} {A : Option Addr} {n : Nat} {xs : List S85} (h : Kd.C k85 w A n xs) (b i : Nat) (v : Value) (hs : ∀ ad, A = some ad → ad.block ≠ b) : Kd.C k85 (w.setCell ⟨b, i, none⟩ v) A n xs :=
 C85_same h (fun ad e => Below.heap_setCell w ⟨b, i, none⟩ v ad.block (hs ad e))
theorem PassW.setS (N : p.N) (h : PassW p w s) (i : Nat) (v : Bool) : PassW p (w.setCell ⟨p.bs, i, none⟩ (.bool v)) (s.1.set i v, s.2) :=
 have q : ∀ k, k ≠ p.bs → (w.setCell ⟨p.bs, i, none⟩ (.bool v)).heap[k]? = w.heap[k]? := fun k hk => Below.heap_setCell w ⟨p.bs, i, none⟩ _ k hk
 ⟨h.hs.set i v, by rw [List.length_set]; exact h.sl, fun e => (h.hg e).same (q _ N.e.1.symm), h.gl, (q _ N.e.2.1.symm).trans h.hh, h.hl, (q _ N.e2.1).trans h.h2, (q _ N.e3.1).trans h.h3, (q _ N.e4.1).trans h.h4, h.hr.same (q _ N.eb.1), C85_set h.ho _ _ _ (fun ad e => (N.ea ad e).1), h.hgv⟩
theorem PassW.setG (N : p.N) (h : PassW p w s) (i : Nat) (v : Int) : PassW p (w.setCell ⟨p.bg, i, none⟩ (.int .i64 v)) (s.1, s.2.1.set i v, s.2.2) :=
 have q : ∀ k, k ≠ p.bg → (w.setCell ⟨p.bg, i, none⟩ (.int .i64 v)).heap[k]? = w.heap[k]? := fun k hk => Below.heap_setCell w ⟨p.bg, i, none⟩ _ k hk
 ⟨h.hs.same (q _ N.e.1), h.sl, fun e => (h.hg e).set i v, by rw [List.length_set]; exact h.gl, (q _ N.e.2.2.symm).trans h.hh, h.hl, (q _ N.e2.2.1).trans h.h2, (q _ N.e3.2.1).trans h.h3, (q _ N.e4.2.1).trans h.h4, h.hr.same (q _ N.eb.2.1), C85_set h.ho _ _ _ (fun ad e => (N.ea ad e).2.1), h.hgv⟩
theorem PassW.setH (N : p.N) (h : PassW p w s) (i : Nat) (v : Int) : PassW p (w.setCell ⟨p.bh, i, none⟩ (.int .i64 v)) (s.1, s.2.1, s.2.2.set i v) :=
 have q : ∀ k, k ≠ p.bh → (w.setCell ⟨p.bh, i, none⟩ (.int .i64 v)).heap[k]? = w.heap[k]? := fun k hk => Below.heap_setCell w ⟨p.bh, i, none⟩ _ k hk
 ⟨h.hs.same (q _ N.e.2.1), h.sl, fun e => (h.hg e).same (q _ N.e.2.2), h.gl, h.hh.set i v, by rw [List.length_set]; exact h.hl, (q _ N.e2.2.2).trans h.h2, (q _ N.e3.2.2).trans h.h3, (q _ N.e4.2.2).trans h.h4, h.hr.same (q _ N.eb.2.2), C85_set h.ho _ _ _ (fun ad e => (N.ea ad e).2.2), h.hgv⟩
end
def passPost (p : PB) (r : Bool) (s' : PS) (w : World) (e : Ending) (w' : World) : Prop := e = .returned (.bool r) ∧ PassW p w' s' ∧ p.Far w w'
end Go.Proofs.Ytmnamkcjldaoeaa.PAll
namespace Go.Proofs.Ytmnamkcjldaoeaa.PAll
open Go.RowKit Go.Proofs.YtmnamkcjldaoeaaW.PrintWords Go.Proofs.YtmnamkcjldaoeaaW.PrintLast Go.Proofs.YtmnamkcjldaoeaaW.PrintMore
set_option linter.unusedVariables false
set_option linter.unusedSimpArgs false
theorem loopP_succ (rec : PS → Int → Option (Bool × PS)) (op : List S85) (team reach t : Int) (k i : Nat) (s : PS) : loopP rec op team reach t (k + 1) i s =
  if skipP team s.1 (op.getD i z85) t (gameP op s.2.1 i t) = true then loopP rec op team reach t k (i + 1) s
  else if s.2.2.getD (gameP op s.2.1 i t).1.toNat 0 < reach then some (true, moveP s i t (gameP op s.2.1 i t))
  else (rec s (gameP op s.2.1 i t).1).bind fun x => if x.1 = true then some (true, moveP x.2 i t (gameP op s.2.1 i t)) else loopP rec op team reach t k (i + 1) x.2 := rfl
theorem skip_way (f0 f1 t team gi : Int) (sv : Bool) :
  ((f0 != t) = true ∧ (f1 != t) = true ∧ ((f0 != t && f1 != t) || f0 == team || f1 == team || gi == 0 || sv) = true) ∨
  ((f0 != t) = true ∧ (f1 != t) = false ∧ (f0 == team) = true ∧ ((f0 != t && f1 != t) || f0 == team || f1 == team || gi == 0 || sv) = true) ∨
  ((f0 != t) = false ∧ (f0 == team) = true ∧ ((f0 != t && f1 != t) || f0 == team || f1 == team || gi == 0 || sv) = true) ∨
  ((f0 != t) = true ∧ (f1 != t) = false ∧ (f0 == team) = false ∧ (f1 == team) = true ∧ ((f0 != t && f1 != t) || f0 == team || f1 == team || gi == 0 || sv) = true) ∨
  ((f0 != t) = false ∧ (f0 == team) = false ∧ (f1 == team) = true ∧ ((f0 != t && f1 != t) || f0 == team || f1 == team || gi == 0 || sv) = true) ∨
  ((f0 != t) = true ∧ (f1 != t) = false ∧ (f0 == team) = false ∧ (f1 == team) = false ∧ (gi == 0) = true ∧ ((f0 != t && f1 != t) || f0 == team || f1 == team || gi == 0 || sv) = true) ∨
  ((f0 != t) = false ∧ (f0 == team) = false ∧ (f1 == team) = false ∧ (gi == 0) = true ∧ ((f0 != t && f1 != t) || f0 == team || f1 == team || gi == 0 || sv) = true) ∨
  ((f0 != t) = true ∧ (f1 != t) = false ∧ (f0 == team) = false ∧ (f1 == team) = false ∧ (gi == 0) = false ∧ sv = true ∧ ((f0 != t && f1 != t) || f0 == team || f1 == team || gi == 0 || sv) = true) ∨
  ((f0 != t) = false ∧ (f0 == team) = false ∧ (f1 == team) = false ∧ (gi == 0) = false ∧ sv = true ∧ ((f0 != t && f1 != t) || f0 == team || f1 == team || gi == 0 || sv) = true) ∨
  (((f0 != t) = true ∧ (f1 != t) = false ∨ (f0 != t) = false) ∧ (f0 == team) = false ∧ (f1 == team) = false ∧ (gi == 0) = false ∧ sv = false ∧ ((f0 != t && f1 != t) || f0 == team || f1 == team || gi == 0 || sv) = false) := by
 cases (f0 != t) <;> cases (f1 != t) <;> cases (f0 == team) <;> cases (f1 == team) <;> cases (gi == 0) <;> cases sv <;> simp
set_option maxRecDepth 100000 in
set_option maxHeartbeats 4000000 in
theorem pass_calls (p : PB) (N : p.N) (hop : ∀ g ∈ p.op, sound g) (hol : p.op.length ≤ 20) (d : Nat) : ∀ (w : World) (s : PS) (t : Int) (r : Bool) (s' : PS), passF p.op p.team p.reach d s t = some (r, s') → PassW p w s → 0 ≤ t → t < 6 →
  Calls Try.prog 112 #[.int .i64 t, .pointer (some ⟨p.bs, 0, none⟩), .pointer (some ⟨p.b2, 0, none⟩), .pointer (some ⟨p.b3, 0, none⟩), .pointer (some ⟨p.b4, 0, none⟩)] w (passPost p r s' w) := by
 have HN := Aside0.mk N
 have HOP := Lib.hid hop
 clear hop N
 induction d with
 | zero => intro w s t r s' h; cases h
 | succ d ih =>
  intro w s t r s' h hW h0 h6
  have HIH := Lib.hid ih
  have HX : Aside0 (loopP (passF p.op p.team p.reach d) p.op p.team p.reach t p.op.length 0 (s.1.set t.toNat true, s.2) = some (r, s')) := ⟨h⟩
  have HW := Aside0.mk hW
  have fs := hW.hs.frozen t.toNat
  have sc := hW.hs.cell t.toNat (by rw [hW.sl]; omega)
  clear ih h hW
  go_enter Try.func112, Try.ntmps112
  go_upto_region 2 with fail
  obtain ⟨W1, hW1⟩ : ∃ W, W = w.setCell ⟨p.bs, t.toNat, none⟩ (.bool true) := ⟨_, rfl⟩
  rw [← hW1]
  have HW1 : Aside0 (PassW p W1 (s.1.set t.toNat true, s.2)) := ⟨by rw [hW1]; exact HW.out.setS HN.out _ _⟩
  have HF1 : Aside0 (p.Far w W1) := ⟨by rw [hW1]; exact PB.Far.set w _ _ _ (.inl rfl)⟩
  clear hW1 fs sc
  have e2 : W1.cell? ⟨p.b2, 0, none⟩ = some (.pointer (some ⟨p.b, 0, none⟩)) := (blk_cell HW1.out.h2 0).trans rfl
  obtain ⟨Ao, hAo⟩ : ∃ A, p.Ao = A := ⟨_, rfl⟩
  have e8 := HW1.out.hr.c8
  have HAO := Lib.hid hAo
  rw [hAo] at e8
  clear hAo
  go_wp2
  go_loopw [19] (fun v wr => ∃ (i : Nat) (s1 : PS), i ≤ p.op.length ∧ v = .int .i64 i ∧ Aside0 (loopP (passF p.op p.team p.reach d) p.op p.team p.reach t (p.op.length - i) i s1 = some (r, s')) ∧ Aside0 (PassW p wr s1) ∧ Aside0 (p.Far w wr)) (fun v _ => p.op.length - (intOf v).toNat)
  case atStart => exact ⟨0, (s.1.set t.toNat true, s.2), Nat.zero_le _, rfl, HX, HW1, HF1⟩
  case round =>
   obtain ⟨i, s1, hi, rfl, hX, hS, hF⟩ := hrel
   by_cases hlt : i < p.op.length
   ·
    have hC := hS.out.ho
    rw [HAO.out] at hC
    obtain ⟨ag, ea, g0, g1, g2, g3, g4⟩ := at_T85 hC (i : Int) (by omega) (by omega)
    cases ea
    simp only [Int.toNat_natCast] at g0 g1 g2 g3 g4
    have hx : rd_T85 p.op ↑i = p.op.getD i z85 := rfl
    obtain ⟨x, hxx⟩ : ∃ x, rd_T85 p.op ↑i = x := ⟨_, rfl⟩
    have HX2 : Hid (p.op.getD i z85 = x) := hxx
    rw [hxx] at g0 g1 g2 g3 g4
    have hso : sound x := by rw [← hxx, hx]; exact HOP.out _ (by rw [List.getD_eq_getElem?_getD, List.getElem?_eq_getElem hlt]; exact List.getElem_mem hlt)
    clear hx hxx hC
    obtain ⟨a1, a2, a3, a4, a5⟩ := hso
    have HNE := Lib.hid a5
    clear a5
    go_upto_region 5 with fail
    obtain ⟨W2, hW2⟩ : ∃ W, W = wr.alloc (.cells #[.int .i64 x.f0, .int .i64 x.f1, .int .i64 x.f2, .int .i64 x.f3, .bool x.f4] 85) := ⟨_, rfl⟩
    rw [← hW2]
    have HS2 : Aside0 (PassW p W2 s1) := ⟨by rw [hW2]; exact hS.out.below (below_alloc (Below.refl _ _) _)⟩
    have HF2 : Aside0 (p.Far w W2) := ⟨by rw [hW2]; exact hF.out.trans (PB.Far.below (below_alloc (Below.refl _ _) _))⟩
    have HG2 : Aside0 (W2.heap[wr.heap.size]? = some (.cells #[.int .i64 x.f0, .int .i64 x.f1, .int .i64 x.f2, .int .i64 x.f3, .bool x.f4] 85 (0, 0))) := ⟨by rw [hW2]; exact blk_new _ _⟩
    obtain ⟨bx, hbx⟩ : ∃ k, k = wr.heap.size := ⟨_, rfl⟩
    have HBX := Lib.hid hbx
    rw [← hbx] at HG2
    rw [← hbx]
    clear hW2 g0 g1 g2 g3 g4 e2 hbx
    have d0 : W2.cell? ⟨bx, 0, none⟩ = some (.int .i64 x.f0) := (blk_cell HG2.out 0).trans rfl
    have d1 : W2.cell? ⟨bx, 1, none⟩ = some (.int .i64 x.f1) := (blk_cell HG2.out 1).trans rfl
    have e2 : W2.cell? ⟨p.b2, 0, none⟩ = some (.pointer (some ⟨p.b, 0, none⟩)) := (blk_cell HS2.out.h2 0).trans rfl
    have hne : p.op ≠ [] := by intro e; rw [e] at hlt; cases hlt
    have e9 := HS2.out.hr.c9
    rw [HS2.out.hgv hne] at e9
    have eg := (HS2.out.hg hne).cell i (by rw [HS2.out.gl]; exact hlt)
    obtain ⟨gv, hgv⟩ : ∃ v, s1.2.1.getD i 0 = v := ⟨_, rfl⟩
    have HGV := Lib.hid hgv
    rw [hgv] at eg
    have HNM := Lib.hid hne
    clear hgv hne
    go_quiet (fail)
    go_upto_if 36 with fail
    go_cut [9, 10, 11] (fun v9 v10 v11 wx => ∃ (o gi st : Int), v9 = .int .i64 o ∧ v10 = .int .i64 gi ∧ v11 = .int .i64 st ∧ Aside0 (gameP p.op s1.2.1 i t = (o, gi, st)) ∧ Aside0 (0 ≤ o ∧ o < 6 ∧ (x.f1 = t ∧ o = x.f0 ∨ x.f1 ≠ t ∧ o = x.f1)) ∧ Aside0 (Below W2.heap.size W2 wx))
    case first =>
     by_cases c1 : x.f1 = t
     ·
      have b1 : (x.f1 == t) = true := beq_iff_eq.2 c1
      have HC1 := Lib.hid c1
      clear c1
      go_upto_region 7 with fail
      go_quiet (fail)
      go_wp2
      go_meet
      exact ⟨x.f0, wrap64 (2 - gv), 1, rfl, rfl, rfl, ⟨by unfold gameP; rw [HX2.out, if_pos HC1.out, HGV.out]⟩, ⟨a1, a2, .inl ⟨HC1.out, rfl⟩⟩, ⟨by first | exact pw_below_drewN (pw_below_drewN (Below.refl _ _) _) _ | exact pw_below_drewN (Below.refl _ _) _⟩⟩
     ·
      have b1 : (x.f1 == t) = false := beq_eq_false_iff_ne.2 c1
      have HC1 := Lib.hid c1
      clear c1
      go_wp2
      go_meet
      exact ⟨x.f1, gv, -1, rfl, rfl, rfl, ⟨by unfold gameP; rw [HX2.out, if_neg HC1.out, HGV.out]⟩, ⟨a3, a4, .inr ⟨HC1.out, rfl⟩⟩, ⟨by first | exact pw_below_drewN (pw_below_drewN (Below.refl _ _) _) _ | exact pw_below_drewN (Below.refl _ _) _⟩⟩
    case rest =>
     obtain ⟨o, gi, st, rfl, rfl, rfl, HQ, HO, HB⟩ := hcut
     clear d0 d1 e2 e9 eg
     have HS3 : Aside0 (PassW p wc s1) := ⟨HS2.out.below HB.out⟩
     have HF3 : Aside0 (p.Far w wc) := ⟨HF2.out.trans (PB.Far.below HB.out)⟩
     have HG3 := Aside0.mk (blk_below HG2.out HB.out)
     have d0 : wc.cell? ⟨bx, 0, none⟩ = some (.int .i64 x.f0) := (blk_cell HG3.out 0).trans rfl
     have d1 : wc.cell? ⟨bx, 1, none⟩ = some (.int .i64 x.f1) := (blk_cell HG3.out 1).trans rfl
     have e2 : wc.cell? ⟨p.b2, 0, none⟩ = some (.pointer (some ⟨p.b, 0, none⟩)) := (blk_cell HS3.out.h2 0).trans rfl
     have e0 := HS3.out.hr.c0
     have o0 := HO.out.1
     have o6 := HO.out.2.1
     obtain ⟨sv, hsv⟩ : ∃ v, s1.1.getD o.toNat false = v := ⟨_, rfl⟩
     have es := HS3.out.hs.cell o.toNat (by rw [HS3.out.sl]; omega)
     rw [hsv] at es
     have HSK : Aside0 (skipP p.team s1.1 (p.op.getD i z85) t (gameP p.op s1.2.1 i t) = ((x.f0 != t && x.f1 != t) || x.f0 == p.team || x.f1 == p.team || gi == 0 || sv)) := ⟨by
      unfold skipP
      rw [HQ.out, HX2.out, hsv]⟩
     clear hsv
     have HXX : Aside0 (loopP (passF p.op p.team p.reach d) p.op p.team p.reach t ((p.op.length - (i + 1)) + 1) i s1 = some (r, s')) := ⟨by rw [show p.op.length - (i + 1) + 1 = p.op.length - i from by omega]; exact hX.out⟩
     clear hX
     rcases skip_way x.f0 x.f1 t p.team gi sv with ⟨k1, k2, k9⟩ | ⟨k1, k2, k3, k9⟩ | ⟨k1, k3, k9⟩ | ⟨k1, k2, k3, k4, k9⟩ | ⟨k1, k3, k4, k9⟩ | ⟨k1, k2, k3, k4, k5, k9⟩ | ⟨k1, k3, k4, k5, k9⟩ | ⟨k1, k2, k3, k4, k5, rfl, k9⟩ | ⟨k1, k3, k4, k5, rfl, k9⟩ | hns
     rotate_right
     ·
      obtain ⟨kk, k3, k4, k5, rfl, k9⟩ := hns
      have HNS : Aside0 ((if s1.2.2.getD o.toNat 0 < p.reach then some (true, moveP s1 i t (o, gi, st)) else (passF p.op p.team p.reach d s1 o).bind fun x => if x.1 = true then some (true, moveP x.2 i t (o, gi, st)) else loopP (passF p.op p.team p.reach d) p.op p.team p.reach t (p.op.length - (i + 1)) (i + 1) x.2) = some (r, s')) := ⟨by
       have := HXX.out
       rw [loopP_succ, if_neg (by rw [HSK.out, k9]; exact Bool.false_ne_true), HQ.out] at this
       exact this⟩
      clear k9 HSK HXX
      go_upto_region 8 with fail
      go_cut [83] (fun v83 wx => v83 = .bool false ∧ Aside0 (Below wc.heap.size wc wx))
      case first =>
       rcases kk with ⟨k1, k2⟩ | k1
       all_goals
        go_quiet (fail)
        go_wp2
        go_meet
        exact ⟨rfl, ⟨by first | exact pw_below_drewN (Below.refl _ _) _⟩⟩
      case rest =>
       obtain ⟨rfl, HB4⟩ := hcut
       clear kk k3 k4 k5 d0 d1 e2 e0 es
       have HS4 : Aside0 (PassW p wc s1) := ⟨HS3.out.below HB4.out⟩
       have HF4 : Aside0 (p.Far w wc) := ⟨HF3.out.trans (PB.Far.below HB4.out)⟩
       go_upto_region 9 with fail
       go_cut [98] (fun v98 wx => ∃ (y : Bool) (s2 : PS), v98 = .bool y ∧ Aside0 (y = true → r = true ∧ s' = moveP s2 i t (o, gi, st)) ∧ Aside0 (y = false → loopP (passF p.op p.team p.reach d) p.op p.team p.reach t (p.op.length - (i + 1)) (i + 1) s2 = some (r, s')) ∧ Aside0 (PassW p wx s2) ∧ Aside0 (p.Far w wx))
       case first =>
        have e2 : wc.cell? ⟨p.b2, 0, none⟩ = some (.pointer (some ⟨p.b, 0, none⟩)) := (blk_cell HS4.out.h2 0).trans rfl
        have e3 : wc.cell? ⟨p.b3, 0, none⟩ = some (.pointer (some ⟨p.bh, 0, none⟩)) := (blk_cell HS4.out.h3 0).trans rfl
        have e4 : wc.cell? ⟨p.b4, 0, none⟩ = some (PV p.bs p.b2 p.b3 p.b4) := (blk_cell HS4.out.h4 0).trans rfl
        have e1 := HS4.out.hr.c1
        have eh := HS4.out.hh.cell o.toNat (by rw [HS4.out.hl]; omega)
        obtain ⟨hv, hhv⟩ : ∃ v, s1.2.2.getD o.toNat 0 = v := ⟨_, rfl⟩
        have HHV := Lib.hid hhv
        rw [hhv] at eh
        clear hhv
        by_cases hlt2 : hv < p.reach
        ·
         have kb : decide (hv < p.reach) = true := decide_eq_true hlt2
         have HL2 := Lib.hid hlt2
         clear hlt2
         go_quiet (fail)
         go_wp2
         go_meet
         refine ⟨true, s1, rfl, ⟨fun _ => ?_⟩, ⟨fun e => by cases e⟩, ⟨HS4.out.below (pw_below_drewN (Below.refl _ _) _)⟩, ⟨HF4.out.trans (PB.Far.below (pw_below_drewN (Below.refl _ _) _))⟩⟩
         have := HNS.out
         rw [HHV.out, if_pos HL2.out] at this
         injection this with this
         injection this with h1 h2
         exact ⟨h1.symm, h2.symm⟩
        ·
         have kb : decide (hv < p.reach) = false := decide_eq_false hlt2
         have HNS2 : Aside0 (((passF p.op p.team p.reach d s1 o).bind fun x => if x.1 = true then some (true, moveP x.2 i t (o, gi, st)) else loopP (passF p.op p.team p.reach d) p.op p.team p.reach t (p.op.length - (i + 1)) (i + 1) x.2) = some (r, s')) := ⟨by
          have := HNS.out
          rw [HHV.out, if_neg hlt2] at this
          exact this⟩
         clear hlt2 HNS
         cases hrec : passF p.op p.team p.reach d s1 o with
         | none =>
          have := HNS2.out
          rw [hrec] at this
          cases this
         | some y =>
          obtain ⟨y, s2⟩ := y
          have HREC := Lib.hid hrec
          clear hrec
          go_still_tail 13, (by kernel_rfl)
          change wpList _ _ _ _ _ wc.drew
          have x4 : wc.drew.cell? ⟨p.b4, 0, none⟩ = _ := e4
          clear e2 e3 e4 e1 eh
          go_wp2_with (go_at_call 112; (with_reducible refine (HIH.out _ s1 o y s2 HREC.out ?hw o0 o6).mono ?_); (case hw => exact HS4.out.below (below_drew1 (Below.refl _ _))); rintro e w5 ⟨rfl, hp5, hf5⟩; have HP5 := Aside0.mk hp5; have HF5 := Aside0.mk (HF4.out.trans ((PB.Far.below (below_drew1 (Below.refl _ _))).trans hf5)); clear hp5 hf5 x4)
          go_meet
          refine ⟨y, s2, rfl, ⟨fun e => ?_⟩, ⟨fun e => ?_⟩, HP5, HF5⟩
          ·
           have := HNS2.out
           rw [HREC.out, Option.bind_some, if_pos e] at this
           injection this with this
           injection this with h1 h2
           exact ⟨h1.symm, h2.symm⟩
          ·
           have := HNS2.out
           rw [HREC.out, Option.bind_some, if_neg (by rw [e]; exact Bool.false_ne_true)] at this
           exact this
       case rest =>
        obtain ⟨y, s2, rfl, HT, HZ, HP, HFF⟩ := hcut
        cases y with
        | false =>
         go_wp2
         go_roundw
         case rel => exact ⟨i + 1, s2, by omega, by simp, ⟨HZ.out rfl⟩, HP, HFF⟩
         case measure => simp [intOf]; omega
        | true =>
         have HR := Lib.hid (HT.out rfl)
         have e2 : wc.cell? ⟨p.b2, 0, none⟩ = some (.pointer (some ⟨p.b, 0, none⟩)) := (blk_cell HP.out.h2 0).trans rfl
         have e9 := HP.out.hr.c9
         rw [HP.out.hgv HNM.out] at e9
         have eg := (HP.out.hg HNM.out).cell i (by rw [HP.out.gl]; exact hlt)
         have fg := (HP.out.hg HNM.out).frozen i
         obtain ⟨gv2, hgv2⟩ : ∃ v, s2.2.1.getD i 0 = v := ⟨_, rfl⟩
         have HGV2 := Lib.hid hgv2
         rw [hgv2] at eg
         clear hgv2
         go_upto_region 11 with fail
         obtain ⟨W6, hW6⟩ : ∃ W, W = wc.setCell ⟨p.bg, i, none⟩ (.int .i64 (wrap64 (gv2 + st))) := ⟨_, rfl⟩
         rw [← hW6]
         have HP6 : Aside0 (PassW p W6 (s2.1, s2.2.1.set i (wrap64 (gv2 + st)), s2.2.2)) := ⟨by rw [hW6]; exact HP.out.setG HN.out _ _⟩
         have HF6 : Aside0 (p.Far w W6) := ⟨by rw [hW6]; exact HFF.out.trans (PB.Far.set _ _ _ _ (.inr (.inl rfl)))⟩
         clear hW6 e2 e9 eg fg
         have t3 : W6.cell? ⟨p.b3, 0, none⟩ = some (.pointer (some ⟨p.bh, 0, none⟩)) := (blk_cell HP6.out.h3 0).trans rfl
         have th := HP6.out.hh.cell t.toNat (by rw [HP6.out.hl]; omega)
         have tf := HP6.out.hh.frozen t.toNat
         obtain ⟨ht1, hht1⟩ : ∃ v, s2.2.2.getD t.toNat 0 = v := ⟨_, rfl⟩
         have HHT1 := Lib.hid hht1
         rw [hht1] at th
         clear hht1
         go_still_tail 8, (by kernel_rfl)
         change wpList _ _ _ _ _ W6.drew
         have th2 : W6.drew.cell? ⟨p.bh, t.toNat, none⟩ = _ := th
         have tf2 : W6.drew.frozen? ⟨p.bh, t.toNat, none⟩ = _ := tf
         clear th tf t3
         go_upto_region 12 with fail
         clear th2 tf2
         obtain ⟨W7, hW7⟩ : ∃ W, W = (W6.setCell ⟨p.bh, t.toNat, none⟩ (.int .i64 (wrap64 (ht1 - 1)))).drew := ⟨_, rfl⟩
         rw [← hW7]
         have HP7 : Aside0 (PassW p W7 (s2.1, s2.2.1.set i (wrap64 (gv2 + st)), s2.2.2.set t.toNat (wrap64 (ht1 - 1)))) := ⟨by rw [hW7]; exact (HP6.out.setH HN.out _ _).below (below_drew1 (Below.refl _ _))⟩
         have HF7 : Aside0 (p.Far w W7) := ⟨by rw [hW7]; exact (HF6.out.trans (PB.Far.set _ _ _ _ (.inr (.inr rfl)))).trans (PB.Far.below (below_drew1 (Below.refl _ _)))⟩
         clear hW7
         have t3 : W7.cell? ⟨p.b3, 0, none⟩ = some (.pointer (some ⟨p.bh, 0, none⟩)) := (blk_cell HP7.out.h3 0).trans rfl
         have th := HP7.out.hh.cell o.toNat (by rw [HP7.out.hl]; omega)
         have tf := HP7.out.hh.frozen o.toNat
         obtain ⟨ho1, hho1⟩ : ∃ v, (s2.2.2.set t.toNat (wrap64 (ht1 - 1))).getD o.toNat 0 = v := ⟨_, rfl⟩
         have HHO1 := Lib.hid hho1
         rw [hho1] at th
         clear hho1
         go_still_tail 8, (by kernel_rfl)
         change wpList _ _ _ _ _ W7.drew
         have th2 : W7.drew.cell? ⟨p.bh, o.toNat, none⟩ = _ := th
         have tf2 : W7.drew.frozen? ⟨p.bh, o.toNat, none⟩ = _ := tf
         clear th tf t3
         go_wp2
         have HP8 := (HP7.out.setH HN.out o.toNat (wrap64 (ho1 + 1))).below (below_drew1 (Below.refl _ _))
         have HF8 := (HF7.out.trans (PB.Far.set W7 p.bh o.toNat (.int .i64 (wrap64 (ho1 + 1))) (.inr (.inr rfl)))).trans (PB.Far.below (below_drew1 (Below.refl _ _)))
         refine bodyPost_ret (v := .bool true) (by simp [results, Try.results112, go_sem]) rfl ⟨by rw [HR.out.1], ?_, ?_⟩
         ·
          rw [HR.out.2]
          unfold moveP
          simp only [HGV2.out, HHT1.out, HHO1.out]
          exact HP8
         ·
          exact HF8
     all_goals
      have HSK2 := Aside0.mk (HSK.out.trans k9)
      have HNX : Aside0 (loopP (passF p.op p.team p.reach d) p.op p.team p.reach t (p.op.length - (i + 1)) (i + 1) s1 = some (r, s')) := ⟨by
       have := HXX.out
       rw [loopP_succ, if_pos HSK2.out] at this
       exact this⟩
      clear k9 HSK2 HSK HXX
      go_upto_region 8 with fail
      go_quiet (fail)
      go_wp2
      go_roundw
      case rel => exact ⟨i + 1, s1, by omega, by simp, HNX, ⟨HS3.out.below (by first | exact pw_below_drewN (Below.refl _ _) _)⟩, ⟨HF3.out.trans (PB.Far.below (by first | exact pw_below_drewN (Below.refl _ _) _))⟩⟩
      case measure => simp [intOf]; omega
   ·
    have HE : Hid (r = false ∧ s' = s1) := by
     have := hX.out
     rw [show p.op.length - i = 0 from by omega] at this
     injection this with this
     injection this with h1 h2
     exact ⟨h1.symm, h2.symm⟩
    go_wp2
    refine bodyPost_ret (v := .bool false) (by simp [results, Try.results112, go_sem]) rfl ⟨by rw [HE.out.1], ?_, ?_⟩
    ·
     rw [HE.out.2]; exact hS.out
    ·
     exact hF.out
end Go.Proofs.Ytmnamkcjldaoeaa.PAll
namespace Go.Proofs.Ytmnamkcjldaoeaa.PAll
open Go.RowKit Go.Proofs.YtmnamkcjldaoeaaW.PrintWords Go.Proofs.YtmnamkcjldaoeaaW.PrintLast Go.Proofs.YtmnamkcjldaoeaaW.PrintMore
set_option linter.unusedVariables false
set_option linter.unusedSimpArgs false
structure RB where
 bg : Nat
 bh : Nat
 b : Nat
 team : Int
 reach : Int
 ys : List Int
 op : List S85
 gc : Nat
 g : Value
 Ao : Option Addr
 co : Nat
structure RB.N (q : RB) (n : Nat) : Prop where
 e : q.bg ≠ q.bh ∧ q.b ≠ q.bg ∧ q.b ≠ q.bh
 lt : q.bg < n ∧ q.bh < n ∧ q.b < n
 ea : ∀ ad, q.Ao = some ad → ad.block < n ∧ ad.block ≠ q.bg ∧ ad.block ≠ q.bh
structure RunW (q : RB) (w : World) (gv hv : List Int) : Prop where
 hg : q.op ≠ [] → GivAt w q.bg gv
 gl : gv.length = q.op.length
 hh : ArrAt w q.bh 102 hv
 hl : hv.length = 6
 hr : RaceAt w q.b q.team q.reach q.ys (.slice q.Ao q.op.length q.co) q.g
 ho : Kd.C k85 w q.Ao q.op.length q.op
 hgv : q.op ≠ [] → q.g = .slice (some ⟨q.bg, 0, none⟩) q.op.length q.gc
structure RB.Far (q : RB) (w w' : World) : Prop where
 os : w'.os = w.os
 tape : w'.tape = w.tape
 output : w'.output = w.output
 size : w.heap.size ≤ w'.heap.size
 block : ∀ k, k < w.heap.size → k ≠ q.bg → k ≠ q.bh → w'.heap[k]? = w.heap[k]?
def seen0 : List Bool := [false, false, false, false, false, false]
def RB.pb (q : RB) (n : Nat) : PB := ⟨n + 1 + 1, q.bg, q.bh, n, n + 1, n + 1 + 1 + 1, q.b, q.team, q.reach, q.ys, q.op, q.gc, q.g, q.Ao, q.co⟩
theorem RB.pbN {q : RB} {n : Nat} (h : q.N n) : (q.pb n).N := by
 obtain ⟨⟨h1, h2, h3⟩, ⟨l1, l2, l3⟩, ha⟩ := h
 refine ⟨⟨?_, ?_, h1⟩, ⟨?_, ?_, ?_⟩, ⟨?_, ?_, ?_⟩, ⟨?_, ?_, ?_⟩, ⟨?_, h2, h3⟩, fun ad e => ⟨?_, (ha ad e).2.1, (ha ad e).2.2⟩⟩
 all_goals dsimp only [RB.pb]
 all_goals first | omega | (have := ha ad e; omega)
def shiftWorld (w : World) (q : RB) (from_ : Int) : World :=
 ((((w.alloc (.cells #[.pointer (some ⟨q.b, 0, none⟩)] 116)).alloc (.cells #[.pointer (some ⟨q.bh, 0, none⟩)] 143)).alloc (.cells (boolV seen0) 137)).alloc (.cells #[PV (w.heap.size + 1 + 1) w.heap.size (w.heap.size + 1) (w.heap.size + 1 + 1 + 1)] 86))
theorem shiftWorld_below (w : World) (q : RB) (f : Int) : Below w.heap.size w (shiftWorld w q f) := below_alloc (below_alloc (below_alloc (below_alloc (Below.refl _ _) _) _) _) _
theorem shiftWorld_ok {w : World} {q : RB} {gv hv : List Int} (f : Int) (h : RunW q w gv hv) : PassW (q.pb w.heap.size) (shiftWorld w q f) (seen0, gv, hv) := by
 have hb := shiftWorld_below w q f
 refine ⟨?_, rfl, fun e => (h.hg e).same (hb.block _ (h.hg e).lt), h.gl, h.hh.below hb, h.hl, ?_, ?_, ?_, h.hr.below hb, Kd.C_below h.ho hb, h.hgv⟩
 ·
  refine blk_alloc ?_ _
  have := blk_new ((w.alloc (.cells #[.pointer (some ⟨q.b, 0, none⟩)] 116)).alloc (.cells #[.pointer (some ⟨q.bh, 0, none⟩)] 143)) (.cells (boolV seen0) 137)
  rw [show ((w.alloc (.cells #[.pointer (some ⟨q.b, 0, none⟩)] 116)).alloc (.cells #[.pointer (some ⟨q.bh, 0, none⟩)] 143)).heap.size = w.heap.size + 1 + 1 from by simp] at this
  exact this
 ·
  exact blk_alloc (blk_alloc (blk_alloc (blk_new _ _) _) _) _
 ·
  refine blk_alloc (blk_alloc ?_ _) _
  have := blk_new (w.alloc (.cells #[.pointer (some ⟨q.b, 0, none⟩)] 116)) (.cells #[.pointer (some ⟨q.bh, 0, none⟩)] 143)
  rw [show (w.alloc (.cells #[.pointer (some ⟨q.b, 0, none⟩)] 116)).heap.size = w.heap.size + 1 from by simp] at this
  exact this
 ·
  have := blk_new (((w.alloc (.cells #[.pointer (some ⟨q.b, 0, none⟩)] 116)).alloc (.cells #[.pointer (some ⟨q.bh, 0, none⟩)] 143)).alloc (.cells (boolV seen0) 137)) (.cells #[PV (w.heap.size + 1 + 1) w.heap.size (w.heap.size + 1) (w.heap.size + 1 + 1 + 1)] 86)
  rw [show (((w.alloc (.cells #[.pointer (some ⟨q.b, 0, none⟩)] 116)).alloc (.cells #[.pointer (some ⟨q.bh, 0, none⟩)] 143)).alloc (.cells (boolV seen0) 137)).heap.size = w.heap.size + 1 + 1 + 1 from by simp] at this
  exact this
set_option maxRecDepth 100000 in
set_option maxHeartbeats 4000000 in
theorem shift_calls (q : RB) (w : World) (N : q.N w.heap.size) (hop : ∀ g ∈ q.op, sound g) (hol : q.op.length ≤ 20) (d : Nat) (gv hv : List Int) (t : Int) (h0 : 0 ≤ t) (h6 : t < 6) (r : Bool) (s' : PS)
  (h : passF q.op q.team q.reach d (seen0, gv, hv) t = some (r, s')) (hW : RunW q w gv hv) :
  Calls Try.prog 106 #[.pointer (some ⟨q.b, 0, none⟩), .int .i64 t, .pointer (some ⟨q.bh, 0, none⟩)] w fun e w' => e = .returned (.bool r) ∧ RunW q w' s'.2.1 s'.2.2 ∧ q.Far w w' := by
 have HC : Hid (Calls Try.prog 112 #[.int .i64 t, .pointer (some ⟨w.heap.size + 1 + 1, 0, none⟩), .pointer (some ⟨w.heap.size, 0, none⟩), .pointer (some ⟨w.heap.size + 1, 0, none⟩), .pointer (some ⟨w.heap.size + 1 + 1 + 1, 0, none⟩)] (shiftWorld w q t) (passPost (q.pb w.heap.size) r s' (shiftWorld w q t))) := pass_calls (q.pb w.heap.size) (RB.pbN N) hop hol d (shiftWorld w q t) (seen0, gv, hv) t r s' h (shiftWorld_ok t hW) h0 h6
 have HB := Aside0.mk (shiftWorld_below w q t)
 have HV4 : Aside0 ((shiftWorld w q t).cell? ⟨w.heap.size + 1 + 1 + 1, 0, none⟩ = some (PV (w.heap.size + 1 + 1) w.heap.size (w.heap.size + 1) (w.heap.size + 1 + 1 + 1))) := ⟨(blk_cell (shiftWorld_ok t hW).h4 0).trans rfl⟩
 clear h hW hop N
 go_enter Try.func106, Try.ntmps106
 go_upto_region 4 with fail
 change Code.wp _ _ _ _ (shiftWorld w q t)
 have e4 : (shiftWorld w q t).cell? ⟨w.heap.size + 1 + 1 + 1, 0, none⟩ = some (PV (w.heap.size + 1 + 1) w.heap.size (w.heap.size + 1) (w.heap.size + 1 + 1 + 1)) := HV4.out
 obtain ⟨W, hW⟩ : ∃ W, shiftWorld w q t = W := ⟨_, rfl⟩
 rw [hW] at HC HB e4 ⊢
 clear hW HV4
 go_wp2_with (go_at_call 112; (with_reducible refine Calls.mono HC.out ?_); rintro e w5 ⟨rfl, hp5, hf5⟩; have HP5 := Aside0.mk hp5; have HF5 := Aside0.mk hf5; clear hp5 hf5)
 refine bodyPost_ret (v := .bool r) (by simp [results, Try.results106, go_sem]) rfl ⟨rfl, ⟨HP5.out.hg, HP5.out.gl, HP5.out.hh, HP5.out.hl, HP5.out.hr, HP5.out.ho, HP5.out.hgv⟩, ?_⟩
 exact ⟨HF5.out.os.trans HB.out.os, HF5.out.tape.trans HB.out.tape, HF5.out.output.trans HB.out.output, Nat.le_trans HB.out.size HF5.out.size, fun k k1 k2 k3 => (HF5.out.block k (Nat.lt_of_lt_of_le k1 HB.out.size) (by show k ≠ w.heap.size + 1 + 1; omega) k2 k3).trans (HB.out.block k k1)⟩
end Go.Proofs.Ytmnamkcjldaoeaa.PAll
namespace Go.Proofs.Ytmnamkcjldaoeaa.PAll
open Go.RowKit Go.Proofs.YtmnamkcjldaoeaaW.PrintWords Go.Proofs.YtmnamkcjldaoeaaW.PrintLast Go.Proofs.YtmnamkcjldaoeaaW.PrintMore
set_option linter.unusedVariables false
set_option linter.unusedSimpArgs false
set_option linter.unusedSectionVars false
def con (team : Int) (g : S85) (x t : Int) : Int := if g.f0 = team ∨ g.f1 = team then 0 else if g.f0 = t then x else if g.f1 = t then 2 - x else 0
def cons (team : Int) : List S85 → List Int → Int → Int
 | g :: op, x :: gv, t => con team g x t + cons team op gv t
 | _, _, _ => 0
theorem con_range (team : Int) (g : S85) (x t : Int) (h : 0 ≤ x ∧ x ≤ 2) : 0 ≤ con team g x t ∧ con team g x t ≤ 2 := by
 unfold con
 split
 ·
  omega
 ·
  split
  ·
   omega
  ·
   split <;> omega
theorem cons_set (team t : Int) (y : Int) : ∀ (op : List S85) (gv : List Int) (i : Nat), i < op.length → gv.length = op.length →
  cons team op (gv.set i y) t = cons team op gv t + con team (op.getD i z85) y t - con team (op.getD i z85) (gv.getD i 0) t
 | g :: op, x :: gv, 0, _, _ => by
  simp only [List.set_cons_zero, cons, List.getD_cons_zero]
  omega
 | g :: op, x :: gv, i + 1, h, hl => by
  have := cons_set team t y op gv i (by simpa using h) (by simpa using hl)
  simp only [List.set_cons_succ, cons, List.getD_cons_succ, this]
  omega
theorem cons_range (team t : Int) : ∀ (op : List S85) (gv : List Int), (∀ x ∈ gv, 0 ≤ x ∧ x ≤ 2) → 0 ≤ cons team op gv t ∧ cons team op gv t ≤ 2 * op.length
 | g :: op, x :: gv, h => by
  have h1 := con_range team g x t (h x List.mem_cons_self)
  have h2 := cons_range team t op gv (fun y hy => h y (List.mem_cons_of_mem _ hy))
  simp only [cons, List.length_cons]
  omega
 | [], gv, h => by simp [cons]
 | g :: op, [], h => by simp only [cons]; omega
def Sn (s : List Bool) (u : Int) : Prop := s.getD u.toNat false = true
theorem count_set : ∀ (s : List Bool) (k : Nat), k < s.length → s.getD k false ≠ true → (s.set k true).count false + 1 = s.count false
 | b :: s, 0, _, h => by
  simp only [List.getD_cons_zero] at h
  have hb : b = false := by cases b; rfl; exact absurd rfl h
  subst hb
  simp
 | b :: s, k + 1, hk, h => by
  have := count_set s k (by simpa using hk) (by simpa using h)
  simp only [List.set_cons_succ, List.count_cons]
  omega
theorem Sn_set (s : List Bool) (t u : Int) (h : 0 ≤ t) (ht : t < s.length) (hu : 0 ≤ u) : Sn (s.set t.toNat true) u ↔ (u = t ∨ Sn s u) := by
 unfold Sn
 by_cases e : u = t
 ·
  subst e
  rw [List.getD_eq_getElem?_getD, List.getElem?_set_self (by omega), Option.getD_some]
  simp
 ·
  rw [List.getD_eq_getElem?_getD, List.getElem?_set_ne (by omega), ← List.getD_eq_getElem?_getD]
  simp [e]
theorem getD_set (l : List Int) (i j : Nat) (v : Int) (hi : i < l.length) : (l.set i v).getD j 0 = if j = i then v else l.getD j 0 := by
 by_cases e : j = i
 ·
  subst e
  rw [if_pos rfl, List.getD_eq_getElem?_getD, List.getElem?_set_self hi, Option.getD_some]
 ·
  rw [if_neg e, List.getD_eq_getElem?_getD, List.getElem?_set_ne (by omega), ← List.getD_eq_getElem?_getD]
structure FB where
 op : List S85
 team : Int
 reach : Int
 n : Int
 base : List Int
structure FB.ok (p : FB) : Prop where
 n6 : p.n ≤ 6
 ol : p.op.length ≤ 20
 hop : ∀ i, i < p.op.length → (0 ≤ (p.op.getD i z85).f0 ∧ (p.op.getD i z85).f0 < p.n) ∧ (0 ≤ (p.op.getD i z85).f1 ∧ (p.op.getD i z85).f1 < p.n) ∧ (p.op.getD i z85).f0 ≠ (p.op.getD i z85).f1
 hb : ∀ t : Int, 0 ≤ t → t < 6 → 0 ≤ p.base.getD t.toNat 0 ∧ p.base.getD t.toNat 0 ≤ 1000
structure FB.I (p : FB) (gv hv : List Int) : Prop where
 gl : gv.length = p.op.length
 g2 : ∀ x ∈ gv, 0 ≤ x ∧ x ≤ 2
 hl : hv.length = 6
 hh : ∀ t : Int, 0 ≤ t → t < 6 → hv.getD t.toNat 0 = p.base.getD t.toNat 0 + cons p.team p.op gv t
 gt : ∀ i, i < p.op.length → ((p.op.getD i z85).f0 = p.team → gv.getD i 0 = 2) ∧ ((p.op.getD i z85).f1 = p.team → gv.getD i 0 = 0)
section
variable {p : FB} (P : p.ok)
include P
theorem FB.range {gv hv : List Int} (h : p.I gv hv) (t : Int) (h0 : 0 ≤ t) (h6 : t < 6) : 0 ≤ hv.getD t.toNat 0 ∧ hv.getD t.toNat 0 ≤ 1040 := by
 have h1 := h.hh t h0 h6
 have h2 := P.hb t h0 h6
 have h3 := cons_range p.team t p.op gv h.g2
 have h4 := P.ol
 omega
omit P in
theorem gv_get {gv hv : List Int} (h : p.I gv hv) (i : Nat) (hi : i < p.op.length) : 0 ≤ gv.getD i 0 ∧ gv.getD i 0 ≤ 2 := by
 have hi2 : i < gv.length := by rw [h.gl]; exact hi
 rw [List.getD_eq_getElem?_getD, List.getElem?_eq_getElem hi2, Option.getD_some]
 exact h.g2 _ (List.getElem_mem hi2)
omit P in
theorem gameP_congr (op : List S85) (gv gv' : List Int) (i : Nat) (t : Int) (h : gv'.getD i 0 = gv.getD i 0) : gameP op gv' i t = gameP op gv i t := by
 unfold gameP
 rw [h]
theorem move_ok {s : PS} (h : p.I s.2.1 s.2.2) (i : Nat) (hi : i < p.op.length) (t : Int) (h0 : 0 ≤ t) (h6 : t < 6) (sn : List Bool) (hs : skipP p.team sn (p.op.getD i z85) t (gameP p.op s.2.1 i t) = false) :
  p.I (moveP s i t (gameP p.op s.2.1 i t)).2.1 (moveP s i t (gameP p.op s.2.1 i t)).2.2 ∧
  (∀ u : Int, 0 ≤ u → u < 6 → (moveP s i t (gameP p.op s.2.1 i t)).2.2.getD u.toNat 0 = s.2.2.getD u.toNat 0 - (if u = t then 1 else 0) + (if u = (gameP p.op s.2.1 i t).1 then 1 else 0)) ∧
  (∀ j, j ≠ i → (moveP s i t (gameP p.op s.2.1 i t)).2.1.getD j 0 = s.2.1.getD j 0) := by
 obtain ⟨⟨a0, a1⟩, ⟨b0, b1⟩, hne⟩ := P.hop i hi
 have hn := P.n6
 have hg := gv_get h i hi
 obtain ⟨g, hgg⟩ : ∃ g, p.op.getD i z85 = g := ⟨_, rfl⟩
 rw [hgg] at a0 a1 b0 b1 hne
 unfold skipP at hs
 simp only [Bool.or_eq_false_iff, Bool.and_eq_false_iff, bne_eq_false_iff_eq, beq_eq_false_iff_ne] at hs
 obtain ⟨⟨⟨⟨s1, s2⟩, s3⟩, s4⟩, s5⟩ := hs
 rw [hgg] at s1 s2 s3
 have hgl : i < s.2.1.length := by rw [h.gl]; exact hi
 obtain ⟨x, hx⟩ : ∃ x, s.2.1.getD i 0 = x := ⟨_, rfl⟩
 rw [hx] at hg
 -- the other team, and the step
 have key : ∃ o st, gameP p.op s.2.1 i t = (o, (gameP p.op s.2.1 i t).2.1, st) ∧ o ≠ t ∧ 0 ≤ o ∧ o < 6 ∧ 0 ≤ x + st ∧ x + st ≤ 2 ∧ (st = 1 ∨ st = -1) ∧
   ∀ u : Int, con p.team g (x + st) u = con p.team g x u - (if u = t then 1 else 0) + (if u = o then 1 else 0) := by
  unfold gameP at s4 ⊢
  rw [hgg, hx] at s4 ⊢
  by_cases c : g.f1 = t
  ·
   rw [if_pos c] at s4 ⊢
   have s4' : wrap64 (2 - x) ≠ 0 := s4
   rw [IntWalk.wrap64_in _ ⟨by omega, by omega⟩] at s4'
   clear s4
   refine ⟨g.f0, 1, rfl, by omega, by omega, by omega, by omega, by omega, .inl rfl, fun u => ?_⟩
   have hnt : ¬ (g.f0 = p.team ∨ g.f1 = p.team) := by omega
   unfold con
   rw [if_neg hnt, if_neg hnt]
   by_cases e1 : g.f0 = u
   ·
    rw [if_pos e1, if_pos e1, if_neg (by omega), if_pos e1.symm]
    omega
   ·
    rw [if_neg e1, if_neg e1]
    by_cases e2 : g.f1 = u
    ·
     rw [if_pos e2, if_pos e2, if_pos (by omega), if_neg (by omega)]
     omega
    ·
     rw [if_neg e2, if_neg e2, if_neg (by omega), if_neg (by omega)]
     omega
  ·
   rw [if_neg c] at s4 ⊢
   have s4' : x ≠ 0 := s4
   have c0 : g.f0 = t := by omega
   clear s4
   refine ⟨g.f1, -1, rfl, by omega, by omega, by omega, by omega, by omega, .inr rfl, fun u => ?_⟩
   have hnt : ¬ (g.f0 = p.team ∨ g.f1 = p.team) := by omega
   unfold con
   rw [if_neg hnt, if_neg hnt]
   by_cases e1 : g.f0 = u
   ·
    rw [if_pos e1, if_pos e1, if_pos (by omega), if_neg (by omega)]
    omega
   ·
    rw [if_neg e1, if_neg e1]
    by_cases e2 : g.f1 = u
    ·
     rw [if_pos e2, if_pos e2, if_neg (by omega), if_pos (by omega)]
     omega
    ·
     rw [if_neg e2, if_neg e2, if_neg (by omega), if_neg (by omega)]
     omega
 obtain ⟨o, st, hq, hot, o0, o6, x0, x2, hst, hcon⟩ := key
 rw [hq]
 have rt := FB.range P h t h0 h6
 have ro := FB.range P h o o0 o6
 have hl := h.hl
 have hhv : ∀ u : Int, 0 ≤ u → u < 6 → (moveP s i t (o, (gameP p.op s.2.1 i t).2.1, st)).2.2.getD u.toNat 0 = s.2.2.getD u.toNat 0 - (if u = t then 1 else 0) + (if u = o then 1 else 0) := by
  intro u u0 u6
  unfold moveP
  dsimp only
  rw [getD_set _ _ _ _ (by rw [List.length_set]; omega), getD_set _ _ _ _ (by omega), getD_set _ _ _ _ (by omega)]
  rw [if_neg (show ¬ o.toNat = t.toNat by omega), IntWalk.wrap64_in (s.2.2.getD t.toNat 0 - 1) ⟨by omega, by omega⟩, IntWalk.wrap64_in (s.2.2.getD o.toNat 0 + 1) ⟨by omega, by omega⟩]
  by_cases e1 : u = o
  ·
   subst e1
   rw [if_pos rfl, if_neg hot, if_pos rfl]
   omega
  ·
   rw [if_neg (show ¬ u.toNat = o.toNat by omega), if_neg e1]
   by_cases e2 : u = t
   ·
    subst e2
    rw [if_pos rfl, if_pos rfl]
    omega
   ·
    rw [if_neg (show ¬ u.toNat = t.toNat by omega), if_neg e2]
    omega
 have hgv : (moveP s i t (o, (gameP p.op s.2.1 i t).2.1, st)).2.1 = s.2.1.set i (x + st) := by
  unfold moveP
  dsimp only
  rw [hx, IntWalk.wrap64_in (x + st) ⟨by omega, by omega⟩]
 refine ⟨⟨?_, ?_, ?_, fun u u0 u6 => ?_, fun j hj => ?_⟩, hhv, fun j hj => ?_⟩
 ·
  rw [hgv, List.length_set]; exact h.gl
 ·
  rw [hgv]
  intro y hy
  rcases List.mem_or_eq_of_mem_set hy with hy | hy
  ·
   exact h.g2 y hy
  ·
   omega
 ·
  unfold moveP
  dsimp only
  rw [List.length_set, List.length_set]
  exact hl
 ·
  rw [hhv u u0 u6, hgv, cons_set p.team u (x + st) p.op s.2.1 i hi h.gl, hx, hgg, h.hh u u0 u6]
  have := hcon u
  omega
 ·
  by_cases e : j = i
  ·
   subst e
   rw [hgg]
   exact ⟨fun e => absurd e s2, fun e => absurd e s3⟩
  ·
   rw [hgv, getD_set _ _ _ _ hgl, if_neg e]
   exact h.gt j hj
 ·
  rw [hgv, getD_set _ _ _ _ hgl, if_neg hj]
end
theorem Sn_mono_set (s : List Bool) (k : Nat) (u : Int) (h : Sn s u) : Sn (s.set k true) u := by
 unfold Sn at h ⊢
 by_cases e : u.toNat = k
 ·
  subst e
  have hl : u.toNat < s.length := by
   rcases Nat.lt_or_ge u.toNat s.length with h2 | h2
   ·
    exact h2
   ·
    rw [List.getD_eq_getElem?_getD, List.getElem?_eq_none h2] at h
    cases h
  rw [List.getD_eq_getElem?_getD, List.getElem?_set_self hl, Option.getD_some]
 ·
  rw [List.getD_eq_getElem?_getD, List.getElem?_set_ne (by omega), ← List.getD_eq_getElem?_getD]
  exact h
theorem skip_mono {team : Int} {s s' : List Bool} {g : S85} {t : Int} {q : Int × Int × Int} (hm : ∀ u, Sn s u → Sn s' u) (h : skipP team s g t q = true) : skipP team s' g t q = true := by
 unfold skipP at h ⊢
 rw [Bool.or_eq_true] at h ⊢
 exact h.imp id (fun h => hm q.1 h)
structure FB.Post (p : FB) (sn0 : List Bool) (t : Int) (s : PS) (r : Bool) (s' : PS) : Prop where
 len : s'.1.length = 6
 mono : ∀ u, Sn s.1 u → Sn s'.1 u
 cnt : s'.1.count false ≤ s.1.count false
 no : r = false → s'.2 = s.2 ∧ ∀ u : Int, 0 ≤ u → u < 6 → Sn s'.1 u → ¬ Sn s.1 u → u ≠ p.team ∧ u < p.n ∧ (u = t ∨ p.reach ≤ s.2.2.getD u.toNat 0) ∧ ∀ i, i < p.op.length → skipP p.team s'.1 (p.op.getD i z85) u (gameP p.op s.2.1 i u) = true
 yes : r = true → p.I s'.2.1 s'.2.2 ∧ (∃ e : Int, 0 ≤ e ∧ e < p.n ∧ e ≠ p.team ∧ ¬ Sn s.1 e ∧ s.2.2.getD e.toNat 0 < p.reach ∧ ∀ u : Int, 0 ≤ u → u < 6 → s'.2.2.getD u.toNat 0 = s.2.2.getD u.toNat 0 - (if u = t then 1 else 0) + (if u = e then 1 else 0)) ∧
  ∀ i, i < p.op.length → (Sn sn0 (p.op.getD i z85).f0 ∨ Sn sn0 (p.op.getD i z85).f1) → s'.2.1.getD i 0 = s.2.1.getD i 0
section
variable {p : FB} (P : p.ok)
include P
theorem way {sn : List Bool} {gv : List Int} {i : Nat} (hi : i < p.op.length) {t : Int} (hs : skipP p.team sn (p.op.getD i z85) t (gameP p.op gv i t) = false) :
  0 ≤ (gameP p.op gv i t).1 ∧ (gameP p.op gv i t).1 < p.n ∧ (gameP p.op gv i t).1 ≠ p.team ∧ (gameP p.op gv i t).1 ≠ t ∧ ¬ Sn sn (gameP p.op gv i t).1 ∧ ((p.op.getD i z85).f0 = t ∧ (p.op.getD i z85).f1 = (gameP p.op gv i t).1 ∨ (p.op.getD i z85).f0 = (gameP p.op gv i t).1 ∧ (p.op.getD i z85).f1 = t) := by
 obtain ⟨⟨a0, a1⟩, ⟨b0, b1⟩, hne⟩ := P.hop i hi
 unfold skipP at hs
 simp only [Bool.or_eq_false_iff, Bool.and_eq_false_iff, bne_eq_false_iff_eq, beq_eq_false_iff_ne] at hs
 obtain ⟨⟨⟨⟨s1, s2⟩, s3⟩, s4⟩, s5⟩ := hs
 have hu : ¬ Sn sn (gameP p.op gv i t).1 := by
  unfold Sn
  rw [s5]
  exact Bool.false_ne_true
 have ho : (gameP p.op gv i t).1 = if (p.op.getD i z85).f1 = t then (p.op.getD i z85).f0 else (p.op.getD i z85).f1 := by
  unfold gameP
  split <;> rfl
 by_cases c : (p.op.getD i z85).f1 = t
 ·
  rw [if_pos c] at ho
  refine ⟨by omega, by omega, by omega, by omega, hu, .inr ⟨ho.symm, c⟩⟩
 ·
  rw [if_neg c] at ho
  have c0 : (p.op.getD i z85).f0 = t := s1.resolve_right c
  refine ⟨by omega, by omega, by omega, by omega, hu, .inl ⟨c0, ho.symm⟩⟩
theorem loop_ok (d : Nat) (sn0 : List Bool) (t : Int) (h0 : 0 ≤ t) (hn : t < p.n) (hsn0 : ¬ Sn sn0 t)
  (ih : ∀ (s : PS) (t : Int), s.1.length = 6 → s.1.count false ≤ d → 0 ≤ t → t < p.n → t ≠ p.team → ¬ Sn s.1 t → p.I s.2.1 s.2.2 →
   ∃ r s', passF p.op p.team p.reach d s t = some (r, s') ∧ p.Post s.1 t s r s' ∧ (r = false → Sn s'.1 t)) :
  ∀ (k i : Nat) (s : PS), i + k = p.op.length → s.1.length = 6 → s.1.count false ≤ d → Sn s.1 t → p.I s.2.1 s.2.2 → (∀ u, Sn sn0 u → Sn s.1 u) →
   (∀ j, j < i → skipP p.team s.1 (p.op.getD j z85) t (gameP p.op s.2.1 j t) = true) →
   ∃ r s', loopP (passF p.op p.team p.reach d) p.op p.team p.reach t k i s = some (r, s') ∧ p.Post sn0 t s r s' ∧ (r = false → ∀ j, j < p.op.length → skipP p.team s'.1 (p.op.getD j z85) t (gameP p.op s.2.1 j t) = true) := by
 have h6 := P.n6
 intro k
 induction k with
 | zero =>
  intro i s hik hl hc hst hI hsub hsk
  obtain rfl : i = p.op.length := by omega
  exact ⟨false, s, rfl, ⟨hl, fun u h => h, Nat.le_refl _, fun _ => ⟨rfl, fun u _ _ h1 h2 => absurd h1 h2⟩, fun h => by cases h⟩, fun _ => hsk⟩
 | succ k ihk =>
  intro i s hik hl hc hst hI hsub hsk
  have hi : i < p.op.length := by omega
  cases hs : skipP p.team s.1 (p.op.getD i z85) t (gameP p.op s.2.1 i t) with
  | true =>
   obtain ⟨r, s', e, h1, h2⟩ := ihk (i + 1) s (by omega) hl hc hst hI hsub (fun j hj => by
    rcases Nat.lt_or_ge j i with h | h
    ·
     exact hsk j h
    ·
     rw [show j = i by omega]
     exact hs)
   refine ⟨r, s', ?_, h1, h2⟩
   unfold loopP
   rw [if_pos hs]
   exact e
  | false =>
   obtain ⟨o0, on, ot, oe, ou, ow⟩ := way P hi hs
   have heq : loopP (passF p.op p.team p.reach d) p.op p.team p.reach t (k + 1) i s = (if s.2.2.getD (gameP p.op s.2.1 i t).1.toNat 0 < p.reach then some (true, moveP s i t (gameP p.op s.2.1 i t))
  else (passF p.op p.team p.reach d s (gameP p.op s.2.1 i t).1).bind fun x => if x.1 = true then some (true, moveP x.2 i t (gameP p.op s.2.1 i t)) else loopP (passF p.op p.team p.reach d) p.op p.team p.reach t k (i + 1) x.2) := by
    rw [loopP, if_neg (by rw [hs]; exact Bool.false_ne_true)]
   rw [heq]
   by_cases hlt : s.2.2.getD (gameP p.op s.2.1 i t).1.toNat 0 < p.reach
   ·
    rw [if_pos hlt]
    obtain ⟨m1, m2, m3⟩ := move_ok P hI i hi t h0 (by omega) s.1 hs
    refine ⟨true, _, rfl, ⟨hl, fun u h => h, Nat.le_refl _, fun h => (by cases h), fun _ => ⟨m1, ⟨_, o0, on, ot, ou, hlt, m2⟩, fun j hj hseen => m3 j (fun e => ?_)⟩⟩, fun h => by cases h⟩
    subst e
    rcases ow with ⟨w1, w2⟩ | ⟨w1, w2⟩ <;> rw [w1, w2] at hseen <;> rcases hseen with h | h
    ·
     exact hsn0 h
    ·
     exact ou (hsub _ h)
    ·
     exact ou (hsub _ h)
    ·
     exact hsn0 h
   ·
    rw [if_neg hlt]
    obtain ⟨r2, s2, e2, q1, q2⟩ := ih s (gameP p.op s.2.1 i t).1 hl hc o0 on ot ou hI
    rw [e2, Option.bind_some]
    cases r2 with
    | true =>
     obtain ⟨y1, ⟨e, e0, en, et, eu, er, y2⟩, y3⟩ := q1.yes rfl
     have hg : s2.2.1.getD i 0 = s.2.1.getD i 0 := y3 i hi (by rcases ow with ⟨w1, w2⟩ | ⟨w1, w2⟩ <;> rw [w1, w2]; exact .inl hst; exact .inr hst)
     have hq := gameP_congr p.op s.2.1 s2.2.1 i t hg
     rw [← hq] at hs ow oe ⊢
     obtain ⟨m1, m2, m3⟩ := move_ok P y1 i hi t h0 (by omega) s.1 hs
     refine ⟨true, _, rfl, ⟨q1.len, q1.mono, q1.cnt, fun h => (by cases h), fun _ => ⟨m1, ⟨e, e0, en, et, eu, er, fun u u0 u6 => ?_⟩, fun j hj hseen => ?_⟩⟩, fun h => by cases h⟩
     ·
      rw [m2 u u0 u6, y2 u u0 u6, ← hq]
      omega
     ·
      rw [m3 j (fun e => ?_)]
      ·
       exact y3 j hj (hseen.imp (hsub _) (hsub _))
      ·
       subst e
       rw [← hq] at ou
       rcases ow with ⟨w1, w2⟩ | ⟨w1, w2⟩ <;> rw [w1, w2] at hseen <;> rcases hseen with h | h
       ·
        exact hsn0 h
       ·
        exact ou (hsub _ h)
       ·
        exact ou (hsub _ h)
       ·
        exact hsn0 h
    | false =>
     rw [if_neg Bool.false_ne_true]
     obtain ⟨n1, n2⟩ := q1.no rfl
     obtain ⟨r, s', e, h1, h2⟩ := ihk (i + 1) s2 (by omega) q1.len (Nat.le_trans q1.cnt hc) (q1.mono _ hst) (by rw [n1]; exact hI) (fun u h => q1.mono u (hsub u h)) (fun j hj => by
      rw [n1]
      rcases Nat.lt_or_ge j i with h | h
      ·
       exact skip_mono q1.mono (hsk j h)
      ·
       rw [show j = i by omega]
       unfold skipP
       rw [Bool.or_eq_true]
       exact .inr (q2 rfl))
     rw [n1] at h2
     refine ⟨r, s', e, ⟨h1.len, fun u h => h1.mono u (q1.mono u h), Nat.le_trans h1.cnt q1.cnt, fun hr => ?_, fun hr => ?_⟩, h2⟩
     ·
      obtain ⟨z1, z2⟩ := h1.no hr
      rw [n1] at z1 z2
      refine ⟨z1, fun u u0 u6 hu hu2 => ?_⟩
      by_cases hm : Sn s2.1 u
      ·
       obtain ⟨c1, c2, c3, c4⟩ := n2 u u0 u6 hm hu2
       refine ⟨c1, c2, .inr ?_, fun i hi => skip_mono h1.mono (c4 i hi)⟩
       rcases c3 with c3 | c3
       ·
        rw [c3]; omega
       ·
        exact c3
      ·
       exact z2 u u0 u6 hu hm
     ·
      obtain ⟨z1, ⟨e, e0, en, et, eu, er, z2⟩, z3⟩ := h1.yes hr
      rw [n1] at er z2 z3
      exact ⟨z1, ⟨e, e0, en, et, fun h => eu (q1.mono _ h), er, z2⟩, z3⟩
theorem pass_ok : ∀ (d : Nat) (s : PS) (t : Int), s.1.length = 6 → s.1.count false ≤ d → 0 ≤ t → t < p.n → t ≠ p.team → ¬ Sn s.1 t → p.I s.2.1 s.2.2 →
   ∃ r s', passF p.op p.team p.reach d s t = some (r, s') ∧ p.Post s.1 t s r s' ∧ (r = false → Sn s'.1 t) := by
 have h6 := P.n6
 intro d
 induction d with
 | zero =>
  intro s t hl hc h0 hn ht hs hI
  have := count_set s.1 t.toNat (by omega) hs
  omega
 | succ d ih =>
  intro s t hl hc h0 hn ht hs hI
  have hcs := count_set s.1 t.toNat (by omega) hs
  have hst : Sn (s.1.set t.toNat true) t := (Sn_set s.1 t t h0 (by omega) h0).2 (.inl rfl)
  obtain ⟨r, s', e, h1, h2⟩ := loop_ok P d s.1 t h0 hn hs ih p.op.length 0 (s.1.set t.toNat true, s.2) (by omega) (by rw [List.length_set]; exact hl) (by show (s.1.set t.toNat true).count false ≤ d; omega) hst hI
   (fun u hu => Sn_mono_set s.1 _ u hu) (fun j hj => by omega)
  refine ⟨r, s', e, ⟨h1.len, fun u h => h1.mono u (Sn_mono_set s.1 _ u h), by have := h1.cnt; dsimp only at this; omega, fun hr => ?_, fun hr => ?_⟩, fun _ => h1.mono t hst⟩
  ·
   obtain ⟨z1, z2⟩ := h1.no hr
   refine ⟨z1, fun u u0 u6 hu hu2 => ?_⟩
   by_cases c : u = t
   ·
    subst c
    exact ⟨ht, hn, .inl rfl, h2 hr⟩
   ·
    exact z2 u u0 u6 hu (fun h => by
     rcases (Sn_set s.1 t u h0 (by omega) u0).1 h with h | h
     ·
      exact c h
     ·
      exact hu2 h)
  ·
   obtain ⟨z1, ⟨e, e0, en, et, eu, er, z2⟩, z3⟩ := h1.yes hr
   exact ⟨z1, ⟨e, e0, en, et, fun h => eu (Sn_mono_set s.1 _ e h), er, z2⟩, z3⟩
end
def settleT (op : List S85) (team reach t : Int) : Nat → List Int → List Int → Option (Bool × List Int × List Int)
 | 0, _, _ => none
 | k + 1, gv, hv => if t ≠ team ∧ reach < hv.getD t.toNat 0 then (passF op team reach 6 (seen0, gv, hv) t).bind fun x => if x.1 = true then settleT op team reach t k x.2.2.1 x.2.2.2 else some (false, x.2.2) else some (true, gv, hv)
def settleA (op : List S85) (team reach : Int) : Nat → Nat → List Int → List Int → Option (Bool × List Int × List Int)
 | 0, _, gv, hv => some (true, gv, hv)
 | d + 1, t, gv, hv => (settleT op team reach t 2000 gv hv).bind fun x => if x.1 = true then settleA op team reach d (t + 1) x.2.1 x.2.2 else some x
def FB.Cut (p : FB) : Prop := ∃ (sn : List Bool) (gv hv : List Int), sn.length = 6 ∧ p.I gv hv ∧ (∃ t : Int, 0 ≤ t ∧ t < 6 ∧ Sn sn t ∧ p.reach < hv.getD t.toNat 0) ∧
 ∀ u : Int, 0 ≤ u → u < 6 → Sn sn u → u ≠ p.team ∧ u < p.n ∧ p.reach ≤ hv.getD u.toNat 0 ∧ ∀ i, i < p.op.length → skipP p.team sn (p.op.getD i z85) u (gameP p.op gv i u) = true
theorem not_seen0 (u : Int) : ¬ Sn seen0 u := by
 unfold Sn seen0
 have : ∀ k : Nat, [false, false, false, false, false, false].getD k false = false := by
  intro k
  match k with
  | 0 | 1 | 2 | 3 | 4 | 5 => rfl
  | k + 6 => rfl
 rw [this]
 exact Bool.false_ne_true
section
variable {p : FB} (P : p.ok)
include P
theorem settleT_ok (t : Int) (h0 : 0 ≤ t) (h6 : t < 6) (hbig : ∀ hv gv, p.I gv hv → p.reach < hv.getD t.toNat 0 → t < p.n) : ∀ (k : Nat) (gv hv : List Int), p.I gv hv → (hv.getD t.toNat 0 - p.reach).toNat < k →
  ∃ r gv' hv', settleT p.op p.team p.reach t k gv hv = some (r, gv', hv') ∧ (r = true → p.I gv' hv' ∧ (t ≠ p.team → hv'.getD t.toNat 0 ≤ p.reach) ∧ ∀ u : Int, 0 ≤ u → u < 6 → hv.getD u.toNat 0 ≤ p.reach → hv'.getD u.toNat 0 ≤ p.reach) ∧ (r = false → p.Cut) := by
 intro k
 induction k with
 | zero => intro gv hv hI hk; omega
 | succ k ih =>
  intro gv hv hI hk
  unfold settleT
  by_cases hc : t ≠ p.team ∧ p.reach < hv.getD t.toNat 0
  ·
   rw [if_pos hc]
   obtain ⟨r, s', e, q1, q2⟩ := pass_ok P 6 (seen0, gv, hv) t rfl (by show seen0.count false ≤ 6; decide) h0 (hbig hv gv hI hc.2) hc.1 (not_seen0 t) hI
   rw [e, Option.bind_some]
   cases r with
   | true =>
    rw [if_pos rfl]
    obtain ⟨y1, ⟨e, e0, en, et, eu, er, y2⟩, _⟩ := q1.yes rfl
    dsimp only at y1 y2 er
    have hn := P.n6
    have hte : t ≠ e := by
     intro h
     subst h
     omega
    have ht := y2 t h0 h6
    rw [if_pos rfl, if_neg hte] at ht
    obtain ⟨r, gv', hv', f1, f2, f3⟩ := ih s'.2.1 s'.2.2 y1 (by omega)
    refine ⟨r, gv', hv', f1, fun hr => ?_, f3⟩
    obtain ⟨g1, g2, g3⟩ := f2 hr
    refine ⟨g1, g2, fun u u0 u6 hu => g3 u u0 u6 ?_⟩
    rw [y2 u u0 u6]
    by_cases c : u = e
    ·
     subst c
     rw [if_pos rfl, if_neg (fun h => hte h.symm)]
     omega
    ·
     rw [if_neg c]
     split <;> omega
   | false =>
    rw [if_neg Bool.false_ne_true]
    obtain ⟨n1, n2⟩ := q1.no rfl
    refine ⟨false, _, _, rfl, fun h => (by cases h), fun _ => ?_⟩
    refine ⟨s'.1, gv, hv, q1.len, hI, ⟨t, h0, h6, q2 rfl, hc.2⟩, fun u u0 u6 hu => ?_⟩
    obtain ⟨c1, c2, c3, c4⟩ := n2 u u0 u6 hu (not_seen0 u)
    refine ⟨c1, c2, ?_, c4⟩
    rcases c3 with rfl | c3
    ·
     omega
    ·
     exact c3
  ·
   rw [if_neg hc]
   exact ⟨true, gv, hv, rfl, fun _ => ⟨hI, fun h => by omega, fun u _ _ h => h⟩, fun h => (by cases h)⟩
theorem settleA_ok (hr : 0 ≤ p.reach) (hbig : ∀ t : Int, 0 ≤ t → t < 6 → ∀ hv gv, p.I gv hv → p.reach < hv.getD t.toNat 0 → t < p.n) : ∀ (d t : Nat) (gv hv : List Int), t + d = 6 → p.I gv hv → (∀ u : Nat, u < t → (u : Int) ≠ p.team → hv.getD u 0 ≤ p.reach) →
  ∃ r gv' hv', settleA p.op p.team p.reach d t gv hv = some (r, gv', hv') ∧ (r = true → p.I gv' hv' ∧ ∀ u : Nat, u < 6 → (u : Int) ≠ p.team → hv'.getD u 0 ≤ p.reach) ∧ (r = false → p.Cut) := by
 intro d
 induction d with
 | zero =>
  intro t gv hv htd hI hu
  obtain rfl : t = 6 := by omega
  exact ⟨true, gv, hv, rfl, fun _ => ⟨hI, hu⟩, fun h => (by cases h)⟩
 | succ d ih =>
  intro t gv hv htd hI hu
  unfold settleA
  have hrg := FB.range P hI (t : Int) (by omega) (by omega)
  obtain ⟨r, gv', hv', f1, f2, f3⟩ := settleT_ok P (t : Int) (by omega) (by omega) (hbig t (by omega) (by omega)) 2000 gv hv hI (by omega)
  rw [f1, Option.bind_some]
  cases r with
  | true =>
   rw [if_pos rfl]
   obtain ⟨g1, g2, g3⟩ := f2 rfl
   refine ih (t + 1) gv' hv' (by omega) g1 (fun u hut hne => ?_)
   rcases Nat.lt_or_ge u t with h | h
   ·
    have := g3 (u : Int) (by omega) (by omega) (by rw [Int.toNat_natCast]; exact hu u h hne)
    rw [Int.toNat_natCast] at this
    exact this
   ·
    obtain rfl : u = t := by omega
    have := g2 hne
    rw [Int.toNat_natCast] at this
    exact this
  | false =>
   rw [if_neg Bool.false_ne_true]
   exact ⟨false, gv', hv', rfl, fun h => (by cases h), fun _ => f3 rfl⟩
end
def seenL (sn : List Bool) : List Int := ((List.range 6).filter fun i => sn.getD i false).map fun (i : Nat) => (i : Int)
theorem mem_seenL (sn : List Bool) (u : Int) : u ∈ seenL sn ↔ 0 ≤ u ∧ u < 6 ∧ Sn sn u := by
 unfold seenL Sn
 rw [List.mem_map]
 constructor
 ·
  rintro ⟨k, hk, rfl⟩
  rw [List.mem_filter, List.mem_range] at hk
  exact ⟨by omega, by omega, by rw [Int.toNat_natCast]; exact hk.2⟩
 ·
  rintro ⟨h0, h6, hs⟩
  exact ⟨u.toNat, by rw [List.mem_filter, List.mem_range]; exact ⟨by omega, hs⟩, by omega⟩
theorem nodup_seenL (sn : List Bool) : (seenL sn).Nodup := by
 unfold seenL
 refine List.Pairwise.map _ (fun a b h => ?_) ((List.nodup_range (n := 6)).filter _)
 omega
theorem two_sum (a b x y : Int) (hab : a ≠ b) : ∀ (L : List Int), L.Nodup → (L.map fun u => if a = u then x else if b = u then y else 0).sum = (if a ∈ L then x else 0) + (if b ∈ L then y else 0)
 | [], _ => by simp
 | v :: L, h => by
  obtain ⟨h1, h2⟩ := List.nodup_cons.1 h
  rw [List.map_cons, List.sum_cons, two_sum a b x y hab L h2]
  by_cases ha : a = v
  ·
   subst ha
   simp only [if_true, List.mem_cons, true_or, h1, if_false]
   have hb : ¬ b = a := fun h => hab h.symm
   simp only [hb, false_or]
   omega
  ·
   by_cases hb : b = v
   ·
    subst hb
    simp only [if_true, List.mem_cons, true_or, h1, if_false, ha, false_or]
    omega
   ·
    simp only [List.mem_cons, ha, hb, false_or, if_false]
    omega
theorem sum_more (r : Int) (f : Int → Int) : ∀ (L : List Int), (∀ u ∈ L, r ≤ f u) → r * L.length ≤ (L.map f).sum
 | [], _ => by simp
 | v :: L, h => by
  have h1 := sum_more r f L (fun u hu => h u (List.mem_cons_of_mem _ hu))
  have h2 := h v List.mem_cons_self
  rw [List.map_cons, List.sum_cons, List.length_cons]
  push_cast
  rw [Int.mul_add]
  omega
theorem sum_most (r : Int) (f : Int → Int) : ∀ (L : List Int), (∀ u ∈ L, r ≤ f u) → (∃ u ∈ L, r < f u) → r * L.length < (L.map f).sum
 | [], _, h => by obtain ⟨u, hu, _⟩ := h; cases hu
 | v :: L, h, he => by
  have h1 := sum_more r f L (fun u hu => h u (List.mem_cons_of_mem _ hu))
  have h2 := h v List.mem_cons_self
  rw [List.map_cons, List.sum_cons, List.length_cons]
  push_cast
  rw [Int.mul_add]
  obtain ⟨u, hu, hlt⟩ := he
  rcases List.mem_cons.1 hu with rfl | hu
  ·
   omega
  ·
   have h3 := sum_most r f L (fun u hu => h u (List.mem_cons_of_mem _ hu)) ⟨u, hu, hlt⟩
   omega
theorem sum_add (f g : Int → Int) : ∀ (L : List Int), (L.map fun u => f u + g u).sum = (L.map f).sum + (L.map g).sum
 | [] => by simp
 | v :: L => by
  simp only [List.map_cons, List.sum_cons, sum_add f g L]
  omega
theorem sum_congr' {f g : Int → Int} : ∀ (L : List Int), (∀ u ∈ L, f u = g u) → (L.map f).sum = (L.map g).sum
 | [], _ => rfl
 | v :: L, h => by
  rw [List.map_cons, List.map_cons, List.sum_cons, List.sum_cons, h v List.mem_cons_self, sum_congr' L (fun u hu => h u (List.mem_cons_of_mem _ hu))]
def bothS (L : List Int) (op : List S85) : Int := (op.map fun g => if g.f0 ∈ L ∧ g.f1 ∈ L then (2 : Int) else 0).sum
theorem cut_games (team : Int) (L : List Int) : ∀ (op : List S85) (gv : List Int), gv.length = op.length → (∀ i, i < op.length → (L.map fun u => con team (op.getD i z85) (gv.getD i 0) u).sum ≤ if (op.getD i z85).f0 ∈ L ∧ (op.getD i z85).f1 ∈ L then 2 else 0) →
  (L.map fun u => cons team op gv u).sum ≤ bothS L op
 | [], [], _, _ => by
  have : (L.map fun u => cons team [] [] u) = L.map fun _ => 0 := rfl
  rw [this]
  have : ∀ L : List Int, (L.map fun _ => (0 : Int)).sum = 0 := by
   intro L
   induction L with
   | nil => rfl
   | cons v L ih => rw [List.map_cons, List.sum_cons, ih]; rfl
  rw [this]
  exact Int.le_refl _
 | g :: op, x :: gv, hl, h => by
  have h1 := cut_games team L op gv (by simpa using hl) (fun i hi => by
   have := h (i + 1) (by simpa using hi)
   simpa only [List.getD_cons_succ] using this)
  have h2 := h 0 (by simp)
  simp only [List.getD_cons_zero] at h2
  have e : (L.map fun u => cons team (g :: op) (x :: gv) u).sum = (L.map fun u => con team g x u).sum + (L.map fun u => cons team op gv u).sum := sum_add (fun u => con team g x u) (fun u => cons team op gv u) L
  rw [e]
  unfold bothS at h1 ⊢
  rw [List.map_cons, List.sum_cons]
  omega
section
variable {p : FB} (P : p.ok)
include P
theorem cut_sum (h : p.Cut) : ∃ sn : List Bool, sn.length = 6 ∧ seenL sn ≠ [] ∧ (∀ u ∈ seenL sn, u ≠ p.team ∧ u < p.n) ∧ p.reach * (seenL sn).length < ((seenL sn).map fun u => p.base.getD u.toNat 0).sum + bothS (seenL sn) p.op := by
 obtain ⟨sn, gv, hv, hl, hI, ⟨t, t0, t6, ts, tr⟩, hc⟩ := h
 have hc2 : ∀ u ∈ seenL sn, u ≠ p.team ∧ u < p.n ∧ p.reach ≤ hv.getD u.toNat 0 ∧ ∀ i, i < p.op.length → skipP p.team sn (p.op.getD i z85) u (gameP p.op gv i u) = true := by
  intro u hu
  obtain ⟨a, b, c⟩ := (mem_seenL sn u).1 hu
  exact hc u a b c
 have htm : t ∈ seenL sn := (mem_seenL sn t).2 ⟨t0, t6, ts⟩
 refine ⟨sn, hl, (fun e => by rw [e] at htm; cases htm), fun u hu => ⟨(hc2 u hu).1, (hc2 u hu).2.1⟩, ?_⟩
 have h1 := sum_most p.reach (fun u => hv.getD u.toNat 0) (seenL sn) (fun u hu => (hc2 u hu).2.2.1) ⟨t, htm, tr⟩
 have h2 : ((seenL sn).map fun u => hv.getD u.toNat 0).sum = ((seenL sn).map fun u => p.base.getD u.toNat 0 + cons p.team p.op gv u).sum := sum_congr' _ (fun u hu => by
  obtain ⟨a, b, c⟩ := (mem_seenL sn u).1 hu
  exact hI.hh u a b)
 have e2 : ((seenL sn).map fun u => p.base.getD u.toNat 0 + cons p.team p.op gv u).sum = ((seenL sn).map fun u => p.base.getD u.toNat 0).sum + ((seenL sn).map fun u => cons p.team p.op gv u).sum := sum_add (fun u => p.base.getD u.toNat 0) (fun u => cons p.team p.op gv u) (seenL sn)
 rw [e2] at h2
 have h3 := cut_games p.team (seenL sn) p.op gv hI.gl (fun i hi => by
  obtain ⟨⟨a0, a1⟩, ⟨b0, b1⟩, hne⟩ := P.hop i hi
  have hn := P.n6
  have hx := gv_get hI i hi
  have m0 := mem_seenL sn (p.op.getD i z85).f0
  have m1 := mem_seenL sn (p.op.getD i z85).f1
  have k0 := fun hm => (hc2 (p.op.getD i z85).f0 hm).2.2.2 i hi
  have k1 := fun hm => (hc2 (p.op.getD i z85).f1 hm).2.2.2 i hi
  unfold gameP at k0 k1
  rw [if_neg (fun h => hne h.symm)] at k0
  rw [if_pos rfl] at k1
  obtain ⟨g, hg⟩ : ∃ g, p.op.getD i z85 = g := ⟨_, rfl⟩
  obtain ⟨x, hxx⟩ : ∃ x, gv.getD i 0 = x := ⟨_, rfl⟩
  rw [hg] at a0 a1 b0 b1 hne m0 m1 k0 k1 ⊢
  rw [hxx] at hx k0 k1 ⊢
  unfold skipP at k0 k1
  simp only [bne_self_eq_false, Bool.false_and, Bool.and_false, Bool.false_or, Bool.or_eq_true, beq_iff_eq] at k0 k1
  rw [IntWalk.wrap64_in (2 - x) ⟨by omega, by omega⟩] at k1
  have z0 : ∀ L : List Int, (L.map fun _ => (0 : Int)).sum = 0 := by
   intro L
   induction L with
   | nil => rfl
   | cons v L ih => rw [List.map_cons, List.sum_cons, ih]; rfl
  unfold con
  by_cases ht : g.f0 = p.team ∨ g.f1 = p.team
  ·
   simp only [if_pos ht]
   rw [z0]
   split <;> omega
  ·
   simp only [if_neg ht]
   rw [two_sum g.f0 g.f1 x (2 - x) hne _ (nodup_seenL sn)]
   by_cases c0 : g.f0 ∈ seenL sn
   ·
    by_cases c1 : g.f1 ∈ seenL sn
    ·
     rw [if_pos c0, if_pos c1, if_pos ⟨c0, c1⟩]
     omega
    ·
     rw [if_pos c0, if_neg c1, if_neg (fun h => c1 h.2)]
     rcases k0 c0 with ((h | h) | h) | h
     ·
      exact absurd (.inl h) ht
     ·
      exact absurd (.inr h) ht
     ·
      omega
     ·
      exact absurd (m1.2 ⟨b0, by omega, h⟩) c1
   ·
    by_cases c1 : g.f1 ∈ seenL sn
    ·
     rw [if_neg c0, if_pos c1, if_neg (fun h => c0 h.1)]
     rcases k1 c1 with ((h | h) | h) | h
     ·
      exact absurd (.inl h) ht
     ·
      exact absurd (.inr h) ht
     ·
      omega
     ·
      exact absurd (m0.2 ⟨a0, by omega, h⟩) c0
    ·
     rw [if_neg c0, if_neg c1, if_neg (fun h => c0 h.1)]
     omega)
 omega
end
end Go.Proofs.Ytmnamkcjldaoeaa.PAll
namespace Go.Proofs.Ytmnamkcjldaoeaa.PAll
open Go.RowKit Go.Proofs.YtmnamkcjldaoeaaW.PrintWords Go.Proofs.YtmnamkcjldaoeaaW.PrintLast Go.Proofs.YtmnamkcjldaoeaaW.PrintMore
set_option linter.unusedVariables false
set_option linter.unusedSimpArgs false
set_option linter.unusedSectionVars false
def give0 (team : Int) (g : S85) : Int := if g.f0 = team then 2 else 0
def have0 (team : Int) (h : List Int) (g : S85) : List Int := if g.f0 = team ∨ g.f1 = team then h else h.set g.f1.toNat (wrap64 (h.getD g.f1.toNat 0 + 2))
def runsF (op : List S85) (team reach : Int) (ys : List Int) : Option (Bool × List Int × List Int) :=
 if ∃ y ∈ ys, reach < y then some (false, [], []) else settleA op team reach 6 0 (op.map (give0 team)) (op.foldl (have0 team) ys)
theorem have0_length (team : Int) (h : List Int) (g : S85) : (have0 team h g).length = h.length := by unfold have0; split <;> simp
theorem have0_fold (team : Int) : ∀ (op : List S85) (h : List Int), (∀ g ∈ op, sound g) → h.length = 6 → (∀ t : Int, 0 ≤ t → t < 6 → 0 ≤ h.getD t.toNat 0 ∧ h.getD t.toNat 0 ≤ 2000 - 2 * op.length) →
  (op.foldl (have0 team) h).length = 6 ∧ ∀ t : Int, 0 ≤ t → t < 6 → (op.foldl (have0 team) h).getD t.toNat 0 = h.getD t.toNat 0 + cons team op (op.map (give0 team)) t
 | [], h, _, hl, _ => ⟨hl, fun t _ _ => by simp [cons]⟩
 | g :: op, h, hs, hl, hb => by
  obtain ⟨a1, a2, a3, a4, a5⟩ := hs g List.mem_cons_self
  have hone : ∀ t : Int, 0 ≤ t → t < 6 → (have0 team h g).getD t.toNat 0 = h.getD t.toNat 0 + con team g (give0 team g) t := by
   intro t t0 t6
   have hb1 := hb g.f1 a3 a4
   rw [List.length_cons] at hb1
   unfold have0 con give0
   by_cases c : g.f0 = team ∨ g.f1 = team
   ·
    rw [if_pos c, if_pos c]
    omega
   ·
    rw [if_neg c, if_neg c, if_neg (fun h => c (.inl h)), getD_set _ _ _ _ (by omega)]
    by_cases e : t = g.f1
    ·
     subst e
     rw [if_pos rfl, if_neg (by omega), if_pos rfl, IntWalk.wrap64_in _ ⟨by omega, by omega⟩]
     omega
    ·
     rw [if_neg (by omega)]
     split
     ·
      omega
     ·
      rw [if_neg (fun h => e h.symm)]
      omega
  have hrng : ∀ t : Int, 0 ≤ con team g (give0 team g) t ∧ con team g (give0 team g) t ≤ 2 := fun t => con_range team g _ t (by unfold give0; split <;> omega)
  obtain ⟨h1, h2⟩ := have0_fold team op (have0 team h g) (fun x hx => hs x (List.mem_cons_of_mem _ hx)) (by rw [have0_length]; exact hl) (fun t t0 t6 => by
   have q1 := hb t t0 t6
   have q2 := hrng t
   rw [hone t t0 t6]
   rw [List.length_cons] at q1
   omega)
  refine ⟨h1, fun t t0 t6 => ?_⟩
  rw [List.foldl_cons, h2 t t0 t6, hone t t0 t6, List.map_cons]
  simp only [cons]
  omega
section
variable {p : FB} (P : p.ok)
include P
theorem ok_sound : ∀ g ∈ p.op, sound g := by
 intro g hg
 obtain ⟨i, hi, rfl⟩ := List.getElem_of_mem hg
 have := P.hop i hi
 rw [List.getD_eq_getElem?_getD, List.getElem?_eq_getElem hi, Option.getD_some] at this
 have hn := P.n6
 exact ⟨by omega, by omega, by omega, by omega, this.2.2⟩
theorem start_ok (hl : p.base.length = 6) : p.I (p.op.map (give0 p.team)) (p.op.foldl (have0 p.team) p.base) := by
 have ho := P.ol
 obtain ⟨h1, h2⟩ := have0_fold p.team p.op p.base (ok_sound P) hl (fun t t0 t6 => by have := P.hb t t0 t6; omega)
 refine ⟨List.length_map _, ?_, h1, h2, fun i hi => ?_⟩
 ·
  intro x hx
  obtain ⟨g, _, rfl⟩ := List.mem_map.1 hx
  unfold give0
  split <;> omega
 ·
  have hg : (p.op.map (give0 p.team)).getD i 0 = give0 p.team (p.op.getD i z85) := by
   rw [List.getD_eq_getElem?_getD, List.getD_eq_getElem?_getD, List.getElem?_map, List.getElem?_eq_getElem hi]
   rfl
  obtain ⟨_, _, hne⟩ := P.hop i hi
  rw [hg]
  unfold give0
  refine ⟨fun h => if_pos h, fun h => if_neg (fun h2 => hne (h2.trans h.symm))⟩
theorem big_ok (hr : 0 ≤ p.reach) (hz : ∀ t : Int, p.n ≤ t → t < 6 → p.base.getD t.toNat 0 = 0) (t : Int) (h0 : 0 ≤ t) (h6 : t < 6) (hv gv : List Int) (h : p.I gv hv) (hb : p.reach < hv.getD t.toNat 0) : t < p.n := by
 rcases Int.lt_or_le t p.n with h1 | h1
 ·
  exact h1
 ·
  exfalso
  have hh := h.hh t h0 h6
  rw [hz t h1 h6] at hh
  have : ∀ (op : List S85) (gv : List Int), (∀ i, i < op.length → (op.getD i z85).f0 < p.n ∧ (op.getD i z85).f1 < p.n) → cons p.team op gv t = 0 := by
   intro op
   induction op with
   | nil => intro gv _; simp [cons]
   | cons g op ih =>
    intro gv hi
    have hg := hi 0 (by simp)
    rw [List.getD_cons_zero] at hg
    cases gv with
    | nil => rfl
    | cons x gv =>
     have := ih gv (fun i h => by
      have := hi (i + 1) (by simpa using h)
      simpa only [List.getD_cons_succ] using this)
     simp only [cons, this]
     unfold con
     split
     ·
      rfl
     ·
      rw [if_neg (by omega), if_neg (by omega)]
      rfl
  rw [this p.op gv (fun i hi => ⟨(P.hop i hi).1.2, (P.hop i hi).2.1.2⟩)] at hh
  omega
theorem runs_ok (hl : p.base.length = 6) (hr : 0 ≤ p.reach) (hz : ∀ t : Int, p.n ≤ t → t < 6 → p.base.getD t.toNat 0 = 0) :
  ∃ r gv hv, runsF p.op p.team p.reach p.base = some (r, gv, hv) ∧ (r = true → p.I gv hv ∧ ∀ u : Nat, u < 6 → (u : Int) ≠ p.team → hv.getD u 0 ≤ p.reach) ∧ (r = false → p.Cut ∨ ∃ y ∈ p.base, p.reach < y) := by
 unfold runsF
 by_cases h : ∃ y ∈ p.base, p.reach < y
 ·
  rw [if_pos h]
  exact ⟨false, [], [], rfl, fun h => (by cases h), fun _ => .inr h⟩
 ·
  rw [if_neg h]
  obtain ⟨r, gv, hv, e, h1, h2⟩ := settleA_ok P hr (big_ok P hr hz) 6 0 _ _ rfl (start_ok P hl) (fun u hu => by omega)
  exact ⟨r, gv, hv, e, h1, fun h => .inl (h2 h)⟩
end
end Go.Proofs.Ytmnamkcjldaoeaa.PAll
namespace Go.Proofs.Ytmnamkcjldaoeaa.PAll
open Go.RowKit Go.Proofs.YtmnamkcjldaoeaaW.PrintWords Go.Proofs.YtmnamkcjldaoeaaW.PrintLast Go.Proofs.YtmnamkcjldaoeaaW.PrintMore
set_option linter.unusedVariables false
set_option linter.unusedSimpArgs false
theorem useAt_len (u : List Int) (a l d : Int) : (useAt u a l d).length = u.length := by simp [useAt]
theorem roundR_len (n : Int) (h : Nat) : ∀ (ms : List S57) (met : List (Int × Int)) (b t : List Bool) (u : List Int) (r : List (Int × Int) × List Int), roundR n h ms met b t u = some r → r.2.length = u.length
 | [], met, b, t, u, r, h0 => by
  unfold roundR at h0
  obtain rfl := Option.some.inj h0
  rfl
 | m :: ms, met, b, t, u, r, h0 => by
  unfold roundR at h0
  split at h0
  ·
   exact absurd h0 (by simp)
  ·
   exact (roundR_len n h ms _ _ _ _ r h0).trans (by simp [useM, useAt_len])
theorem allR_len (n : Int) (h : Nat) : ∀ (ls : List (List S57)) (met : List (Int × Int)) (u : List Int) (r : List (Int × Int) × List Int), allR n h ls met u = some r → r.2.length = u.length
 | [], met, u, r, h0 => by
  unfold allR at h0
  obtain rfl := Option.some.inj h0
  rfl
 | l :: ls, met, u, r, h0 => by
  unfold allR at h0
  obtain ⟨p, h1, h2⟩ := Option.bind_eq_some_iff.1 h0
  exact (allR_len n h ls _ _ r h2).trans (roundR_len n h l _ _ _ _ p h1)
theorem rightF_len (n : Int) (h : Nat) (s : List (List S57)) : (rightF n h s).1.length = 18 := by
 unfold rightF
 split
 ·
  next hs =>
  obtain ⟨r, hr⟩ := Option.isSome_iff_exists.1 hs
  rw [hr]
  exact (allR_len n h s _ _ r hr).trans (by simp [zeros18])
 ·
  simp [zeros18]
def league_Uneven.f (a0 : Int) (l1 : List (List (S57))) : Option (Int × Int) :=
 some (if 2 ≤ a0 ∧ a0 ≤ 6 then (if (rightF a0 (hallsN a0) l1).2 = true then (unevenTo (rightF a0 (hallsN a0) l1).1 (hallsN a0) a0.toNat, 0) else (0, 10)) else (0, 2))
set_option maxRecDepth 100000 in
set_option maxHeartbeats 2000000 in
theorem league_Uneven.calls (a0 : Int) (A1 : Option Addr) (c1 : Nat) (l1 : List (List (S57))) (r1 : Int) (r2 : Int) (w : World) (hr1 : Kd.C (Kd.slice 57 k57) w A1 l1.length l1) (hc1 : l1.length ≤ c1) (h : league_Uneven.f a0 l1 = some (r1, r2)) :
  Calls Try.prog 30 #[.int .i64 a0, .slice A1 l1.length c1] w fun e w' => e = .returned (.tuple #[.int .i64 r1, .int .i64 r2]) ∧ Below w.heap.size w w' := by
 replace h := Option.some.inj h
 have HC := Aside0.mk hr1
 clear hr1
 by_cases hn : 2 ≤ a0 ∧ a0 ≤ 6
 ·
  rw [if_pos hn] at h
  obtain ⟨n2, n6⟩ := hn
  have ht : league_teams.f a0 = some true := by
   unfold league_teams.f league_within.f
   have : a0 = 2 ∨ a0 = 3 ∨ a0 = 4 ∨ a0 = 5 ∨ a0 = 6 := by omega
   rcases this with rfl | rfl | rfl | rfl | rfl <;> rfl
  obtain ⟨hh, h1, h3⟩ := halls_eq a0 n2 n6
  have hlen := rightF_len a0 (hallsN a0) l1
  have HT := Lib.hid ht
  have HRC := Lib.hid (right_calls a0 (hallsN a0) hh h1 h3 n2 n6 A1 c1 l1)
  have HUC := Lib.hid (uneven_calls a0 (hallsN a0) hh h1 h3 n2 n6)
  obtain ⟨⟨u, b⟩, hub⟩ : ∃ p, rightF a0 (hallsN a0) l1 = p := ⟨_, rfl⟩
  rw [hub] at h hlen HRC
  have HL := Lib.hid hlen
  have HLD : Hid (∀ (W : World) (g : Nat), ArrAt W g 110 u → (loadVar 110 ⟨g, 0, none⟩).run Try.prog W = .ok (.agg (arrV u)) W) := by
   intro W g hu
   refine run_loadVar_row W g 110 110 (arrV u) (0, 0) (.array 6 108) hu (by kernel_rfl) rfl ?_
   have : (arrV u).size = 18 := by simp [arrV, HL.out]
   rw [this]
   rfl
  have HST : Hid (∀ (W : World) (g : Nat) (old : List Int), old.length = 18 → ArrAt W g 110 old → (storeVar 110 ⟨g, 0, none⟩ (.agg (arrV u))).run Try.prog W = .ok () (W.setRow g (arrV u))) := by
   intro W g old ho hu
   exact run_storeVar_row W g 110 110 (arrV old) (arrV u) hu (by rw [show (arrV u).size = 18 from by simp [arrV, HL.out]]; rfl) (by simp [arrV, HL.out, ho]) (by simp [arrV, Value.oneCell'])
  have H := Lib.hid h
  clear hh hub hlen ht h
  cases b with
  | true =>
   have HRES : Hid ((unevenTo u (hallsN a0) a0.toNat, (0 : Int)) = (r1, r2)) := H.out
   clear H
   go_enter Try.func30, Try.ntmps30
   go_wp2_with (first
    | (go_at_call 50; (with_reducible refine (league_teams.calls a0 true _ HT.out).mono ?_); rintro e w1 ⟨rfl, hd1⟩; have hb1 := hd1.below; have HB1 := Aside0.mk hb1; clear hb1 hd1)
    | (go_at_call 66; (with_reducible refine (HRC.out _ ?hc).mono ?_); (case hc => exact Kd.C_below HC.out HB1.out); rintro e w2 ⟨rfl, hb2⟩; have HB2 := Aside0.mk hb2; clear hb2)
    | ((with_reducible refine gate_store (t := 110) (p := 6) rfl ?_); refine store_event (t := 110) (p := 6) (v := ?vo) (w1 := (w2.alloc (.cells (arrV zeros18) 110)).setRow w2.heap.size (arrV u)) ?hg ?ho ?hn ?hr ?_; (case ho => rfl); (case hg => rfl); (case hn => rfl); (case hr => exact store_exec (t := 110) (p := .tmp 6) (ad := ⟨w2.heap.size, 0, none⟩) (val := .agg (arrV u)) rfl rfl rfl (HST.out _ _ zeros18 (by decide) (blk_new _ _))); intro w3 hw; have HU3 : Aside0 (ArrAt w3 w2.heap.size 110 u) := ⟨by rw [hw]; exact setRow_arr (blk_new _ _)⟩; have HB3 : Aside0 (Below w.heap.size w w3) := ⟨by rw [hw]; exact setRow_below (below_alloc (HB1.out.trans (HB2.out.mono HB1.out.size)) _) _ (Nat.le_trans HB1.out.size HB2.out.size) _⟩; clear hw)
    | ((with_reducible refine gate_dst (N := 19) rfl ?_); refine Kd.event_run (v := .agg (arrV u)) rfl (load_exec (t := 110) (p := .tmp 6) (ad := ⟨w2.heap.size, 0, none⟩) rfl rfl (HLD.out _ _ ?hu)) ?_; (case hu => first | exact HU3.out | exact blk_drew HU3.out))
    | (go_at_call 67; (with_reducible refine (HUC.out u HL.out _).mono ?_); rintro e w4 ⟨rfl, hb4⟩; have HB4 := Aside0.mk hb4; clear hb4))
   obtain ⟨rfl, rfl⟩ := Prod.mk.inj HRES.out
   go_ret2
   exact ⟨rfl, by first | exact HB3.out.trans (HB4.out.mono HB3.out.size) | exact (below_drew1 HB3.out).trans (HB4.out.mono (below_drew1 HB3.out).size)⟩
  | false =>
   have HRES : Hid (((0 : Int), (10 : Int)) = (r1, r2)) := H.out
   clear H
   go_enter Try.func30, Try.ntmps30
   go_wp2_with (first
    | (go_at_call 50; (with_reducible refine (league_teams.calls a0 true _ HT.out).mono ?_); rintro e w1 ⟨rfl, hd1⟩; have hb1 := hd1.below; have HB1 := Aside0.mk hb1; clear hb1 hd1)
    | (go_at_call 66; (with_reducible refine (HRC.out _ ?hc).mono ?_); (case hc => exact Kd.C_below HC.out HB1.out); rintro e w2 ⟨rfl, hb2⟩; have HB2 := Aside0.mk hb2; clear hb2)
    | ((with_reducible refine gate_store (t := 110) (p := 6) rfl ?_); refine store_event (t := 110) (p := 6) (v := ?vo) (w1 := (w2.alloc (.cells (arrV zeros18) 110)).setRow w2.heap.size (arrV u)) ?hg ?ho ?hn ?hr ?_; (case ho => rfl); (case hg => rfl); (case hn => rfl); (case hr => exact store_exec (t := 110) (p := .tmp 6) (ad := ⟨w2.heap.size, 0, none⟩) (val := .agg (arrV u)) rfl rfl rfl (HST.out _ _ zeros18 (by decide) (blk_new _ _))); intro w3 hw; have HB3 : Aside0 (Below w.heap.size w w3) := ⟨by rw [hw]; exact setRow_below (below_alloc (HB1.out.trans (HB2.out.mono HB1.out.size)) _) _ (Nat.le_trans HB1.out.size HB2.out.size) _⟩; clear hw))
   obtain ⟨rfl, rfl⟩ := Prod.mk.inj HRES.out
   go_ret2
   exact ⟨rfl, by first | exact HB3.out | exact below_drew1 HB3.out⟩
 ·
  rw [if_neg hn] at h
  have HRES := Lib.hid h
  clear h
  have ht : league_teams.f a0 = some false := by rw [teams_eq, show teamsB a0 = false from by unfold teamsB; simp; omega]
  have HT := Lib.hid ht
  clear ht
  go_enter Try.func30, Try.ntmps30
  go_wp2_with (go_at_call 50; (with_reducible refine (league_teams.calls a0 false _ HT.out).mono ?_); rintro e w1 ⟨rfl, hd1⟩; have hb1 := hd1.below; have HB1 := Aside0.mk hb1; clear hb1 hd1)
  obtain ⟨rfl, rfl⟩ := Prod.mk.inj HRES.out
  go_ret2
  exact ⟨rfl, HB1.out⟩
end Go.Proofs.Ytmnamkcjldaoeaa.PAll
namespace Go.Proofs.Ytmnamkcjldaoeaa.PAll
open Go.RowKit Go.Proofs.YtmnamkcjldaoeaaW.PrintWords Go.Proofs.YtmnamkcjldaoeaaW.PrintLast Go.Proofs.YtmnamkcjldaoeaaW.PrintMore
attribute [local go_sem] max2_int min2_int max_two min_two max_three min_three max_four min_four   -- for this text's walks alone
set_option linter.unusedVariables false
set_option linter.unusedSimpArgs false
def league_ProveSchedule.f (a0 : Int) (l1 : List (List (S57))) (a2 : Int) : Option (Bool) := (league_Uneven.f a0 l1).bind fun bt165 => (if bt165.2 = 0 then (some (decide (bt165.1 ≤ a2))) else (some false))
set_option maxHeartbeats 8000000 in
set_option maxRecDepth 100000 in
theorem league_ProveSchedule.calls (a0 : Int) (A1 : Option Addr) (c1 : Nat) (l1 : List (List (S57))) (a2 : Int) (r : Bool) (w : World) (hr1 : Kd.C (Kd.slice 57 k57) w A1 l1.length l1) (hc1 : l1.length ≤ c1) (h : league_ProveSchedule.f a0 l1 a2 = some r) :
  Calls Try.prog 31 #[.int .i64 a0, .slice A1 l1.length c1, .int .i64 a2] w fun e w' => e = .returned (.bool r) ∧ Below w.heap.size w w' := by
 have HR1 := Aside0.mk hr1
 have HC1 := Aside0.mk hc1
 clear hr1 hc1
 have HB := Aside0.mk (Below.refl w.heap.size w)
 have H : ((league_Uneven.f a0 l1).bind fun bt165 => (if bt165.2 = 0 then (some (decide (bt165.1 ≤ a2))) else (some false))) = some r := h
 clear h
 replace H := Option.bind_eq_some_iff.mp H
 obtain ⟨⟨t165, t166⟩, A40, H⟩ := H
 replace H : (if t166 = 0 then (some (decide (t165 ≤ a2))) else (some false)) = some r := H
 have A4 := Aside0.mk A40
 clear A40
 by_cases c5 : t166 = 0
 ·
  rw [if_pos c5] at H
  have c5b0 : (t166 == 0) = true := beq_iff_eq.mpr c5
  have c5b1 : (t166 != 0) = false := bne_eq_false_iff_eq.mpr c5
  clear c5
  obtain rfl := Option.some.inj H
  go_enter Try.func31, Try.ntmps31
  go_wp2_with (first | ((with_reducible refine gate_callee (f := 30) rfl ?_); refine goesL_ (some 12) rfl rfl Try.func30 (by kernel_rfl) rfl #[.int .i64 a0, .slice A1 l1.length c1] rfl (by (try simp only [List.map_toArray, List.map_cons, List.map_nil]); first | done | rfl | (simp only [List.length_drop, List.length_take]; rfl)) ?_; (with_reducible refine (league_Uneven.calls a0 _ _ l1 t165 t166 _ ?side1 ?side2 A4.out).mono ?_); (case side1 => repeat (first | exact HR1.out | (with_reducible refine Kd.C_alloc ?_ _) | (with_reducible refine Kd.C_drewN ?_ _) | (with_reducible refine Kd.C_drew ?_))); (case side2 => exact HC1.out); rintro e w6 ⟨rfl, hb⟩; refine ⟨_, rfl, ?_⟩; have n0_ := Aside0.mk (below_step (by repeat (first | (with_reducible first | exact HB.out | apply below_alloc | apply pw_below_drewN | apply below_drew1) | exact HB.out)) hb); clear HB; have HB := n0_; clear n0_; (try clear hb); (try clear hb2); (try clear hk); (try clear hi)))
  go_ret
  exact ⟨by first | rfl | (simp [errW_none, errW_some] <;> rfl) | (simp [*, errW_none, errW_some] <;> rfl), by repeat (first | (with_reducible first | exact HB.out | apply below_alloc | apply pw_below_drewN | apply below_drew1) | exact HB.out)⟩
 ·
  rw [if_neg c5] at H
  have c5b0 : (t166 == 0) = false := beq_eq_false_iff_ne.mpr c5
  have c5b1 : (t166 != 0) = true := bne_iff_ne.mpr c5
  obtain rfl := Option.some.inj H
  go_enter Try.func31, Try.ntmps31
  go_wp2_with (first | ((with_reducible refine gate_callee (f := 30) rfl ?_); refine goesL_ (some 12) rfl rfl Try.func30 (by kernel_rfl) rfl #[.int .i64 a0, .slice A1 l1.length c1] rfl (by (try simp only [List.map_toArray, List.map_cons, List.map_nil]); first | done | rfl | (simp only [List.length_drop, List.length_take]; rfl)) ?_; (with_reducible refine (league_Uneven.calls a0 _ _ l1 t165 t166 _ ?side1 ?side2 A4.out).mono ?_); (case side1 => repeat (first | exact HR1.out | (with_reducible refine Kd.C_alloc ?_ _) | (with_reducible refine Kd.C_drewN ?_ _) | (with_reducible refine Kd.C_drew ?_))); (case side2 => exact HC1.out); rintro e w7 ⟨rfl, hb⟩; refine ⟨_, rfl, ?_⟩; have n0_ := Aside0.mk (below_step (by repeat (first | (with_reducible first | exact HB.out | apply below_alloc | apply pw_below_drewN | apply below_drew1) | exact HB.out)) hb); clear HB; have HB := n0_; clear n0_; (try clear hb); (try clear hb2); (try clear hk); (try clear hi)))
  go_ret
  exact ⟨by first | rfl | (simp [errW_none, errW_some] <;> rfl) | (simp [*, errW_none, errW_some] <;> rfl), by repeat (first | (with_reducible first | exact HB.out | apply below_alloc | apply pw_below_drewN | apply below_drew1) | exact HB.out)⟩
end Go.Proofs.Ytmnamkcjldaoeaa.PAll
