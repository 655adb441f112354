/- Parts of the proof of leagueReasons_holds, in order: HRight, HUneven, F31 -/
import Derived.Test.YtmnamkcjldaoeaaKReasons3
import Derived.Test.YtmnamkcjldaoeaaKReasons5
import Derived.Test.YtmnamkcjldaoeaaKReasons12
import Derived.Test.YtmnamkcjldaoeaaKReasons15
import Derived.Test.YtmnamkcjldaoeaaKReasons16
import Derived.Deep.RegionWith
import Derived.WideLaws
namespace Go.Proofs.Ytmnamkcjldaoeaa.PAll
open Go.RowKit Go.Proofs.YtmnamkcjldaoeaaW.PrintWords Go.Proofs.YtmnamkcjldaoeaaW.PrintLast Go.Proofs.YtmnamkcjldaoeaaW.PrintMore
set_option linter.unusedVariables false
set_option linter.unusedSimpArgs false
theorem store_exec {P : Program} {ρ : Operand → Value} {o : Oper} {t : TypeId} {p v : Operand} {ad : Addr} {val : Value} {w w1 : World} (ho : o.op = .store t p v) (hp : ρ p = .pointer (some ad)) (hv : ρ v = val) (h : (storeVar t ad val).run P w = .ok () w1) : (execOp ρ o).run P w = .ok .skip w1 := by
 unfold execOp
 simp only [ho, hp, hv, Instr.storeAt, Instr.sureAddr, Sem.run_bind, Sem.run_pure, Result.andThen_ok, h]
theorem load_exec {P : Program} {ρ : Operand → Value} {o : Oper} {t : TypeId} {p : Operand} {ad : Addr} {val : Value} {w : World} (ho : o.op = .load t p) (hp : ρ p = .pointer (some ad)) (h : (loadVar t ad).run P w = .ok val w) : (execOp ρ o).run P w = .ok (.value val) w := by
 unfold execOp
 simp only [ho, hp, Instr.loadAt, Instr.sureAddr, Sem.run_bind, Sem.run_pure, Result.andThen_ok, h]
theorem setRow_arr {w : World} {b t : Nat} {u u2 : List Int} (h : ArrAt w b t u) : ArrAt (w.setRow b (arrV u2)) b t u2 := by
 have hb := blk_lt h
 unfold ArrAt at h ⊢
 obtain ⟨h1, h2⟩ := Array.getElem?_eq_some_iff.1 h
 simp [World.setRow, Array.getElem?_modify, h]
theorem setRow_below {B : Nat} {w w1 : World} (h : Below B w w1) (b : Nat) (hb : B ≤ b) (cs : Array Value) : Below B w (w1.setRow b cs) :=
 ⟨h.os, h.tape, h.output, by simpa using h.size, fun i hi => (setRow_other w1 b i cs (by omega)).trans (h.block i hi)⟩
set_option maxRecDepth 100000 in
theorem res66 {tmps : Array Value} {w : World} {b : Nat} {u : List Int} {x : Bool} (hu : ArrAt w b 110 u) (hl : u.length = 18) (h4 : tmps.getD 4 undef = .pointer (some ⟨b, 0, none⟩)) (h5 : tmps.getD 5 undef = .bool x) :
  (results Try.f66 tmps).run Try.prog w = .ok (.tuple #[.agg (arrV u), .bool x]) w := by
 rw [results_cell_tmp (p := 4) (u := 5) (ty := 110) rfl, h4, h5]
 have hld : (loadVar 110 ⟨b, 0, none⟩).run Try.prog w = .ok (.agg (arrV u)) w := by
  refine run_loadVar_row w b 110 110 (arrV u) (0, 0) (.array 6 108) hu (by kernel_rfl) rfl ?_
  have : (arrV u).size = 18 := by simp [arrV, hl]
  rw [this]
  rfl
 simp only [asAddr, Sem.run_pure, Result.andThen_ok, hld]
theorem len_exec {ρ : Operand → Value} {o : Oper} {p : Operand} {b : Nat} {es : Array MapEntry} {clock : Nat} {w : World} {n : Nat} (ho : o.op = .call { callee := .builtin .len, args := #[p], argTypes := #[136] }) (hp : ρ p = .map (some b)) (hb : w.heap[b]? = some (.map es clock)) (hn : es.size = n) :
  (execOp ρ o).run Try.prog w = .ok (.value (.int .i64 n)) w := by
 have hm := run_len_map (P := Try.prog) (w := w) 136 o.type b es clock (by kernel_rfl) hb
 unfold execOp
 simp only [ho]
 go_simp
section
variable {P : Program} {ops : Array Oper} {Q : Exit → Act → World → Prop}
theorem update_step {oi : Oper} {a : Act} {w w1 : World} {K : Act → World → Prop} {t : TypeId} {m k v : Operand} {vm vk vv : Value} (hw : Region.wanted oi (yielded ops a.tmps) = true) (hN : oi.dst = none) (hop : oi.op = .mapUpdate t m k v) (em : a.eval m = vm) (ek : a.eval k = vk) (ev : a.eval v = vv)
  (hrun : (Instr.mapUpdate t vm vk vv).run P w = .ok () w1) (h : K a w1) : if Region.wanted oi (yielded ops a.tmps) = true then Oper.wp P oi a w K Q else K (a.put none undef) w := by
 refine skip_ hw hN ?_ h
 unfold execOp
 simp only [hop, em, ek, ev, Sem.run_bind, Sem.run_pure, Result.andThen_ok, hrun]
end
def boolV (xs : List Bool) : Array Value := (xs.map Value.bool).toArray
def BArr (w : World) (b t : Nat) (xs : List Bool) : Prop := w.heap[b]? = some (.cells (boolV xs) t (0, 0))
theorem BArr.cell {w : World} {b t : Nat} {xs : List Bool} (h : BArr w b t xs) (i : Nat) (hi : i < xs.length) : w.cell? ⟨b, i, none⟩ = some (.bool (xs.getD i false)) := (blk_cell h i).trans (by simp [boolV, hi])
theorem BArr.frozen {w : World} {b t : Nat} {xs : List Bool} (h : BArr w b t xs) (i : Nat) : w.frozen? ⟨b, i, none⟩ = false := blk_frozen h i
theorem BArr.set {w : World} {b t : Nat} {xs : List Bool} (h : BArr w b t xs) (i : Nat) (v : Bool) : BArr (w.setCell ⟨b, i, none⟩ (.bool v)) b t (xs.set i v) := by
 have := blk_set h i (.bool v)
 rw [show (boolV xs).setIfInBounds i (.bool v) = boolV (xs.set i v) from by simp [boolV, List.map_set]] at this
 exact this
theorem BArr.below {w w1 : World} {b t : Nat} {xs : List Bool} (h : BArr w b t xs) (hb : Below w.heap.size w w1) : BArr w1 b t xs := blk_below h hb
theorem BArr.same {w w1 : World} {b t : Nat} {xs : List Bool} (h : BArr w b t xs) (hs : w1.heap[b]? = w.heap[b]?) : BArr w1 b t xs := hs.trans h
def badM (n : Int) (h : Nat) (met : List (Int × Int)) (busy taken : List Bool) (m : S57) : Bool :=
 decide (m.f0 < 0) || (decide (m.f1 ≤ m.f0) || (decide (n ≤ m.f1) || (!(decide (0 ≤ m.f2) && decide (m.f2 ≤ (h : Int) - 1)) || (met.contains (m.f0, m.f1) || (busy.getD m.f0.toNat false || (busy.getD m.f1.toNat false || taken.getD m.f2.toNat false))))))
def useM (u : List Int) (m : S57) : List Int := useAt (useAt u m.f0 m.f2 1) m.f1 m.f2 1
def roundR (n : Int) (h : Nat) : List S57 → List (Int × Int) → List Bool → List Bool → List Int → Option (List (Int × Int) × List Int)
 | [], met, _, _, u => some (met, u)
 | m :: ms, met, busy, taken, u => if badM n h met busy taken m = true then none else roundR n h ms (met ++ [(m.f0, m.f1)]) ((busy.set m.f0.toNat true).set m.f1.toNat true) (taken.set m.f2.toNat true) (useM u m)
def allR (n : Int) (h : Nat) : List (List S57) → List (Int × Int) → List Int → Option (List (Int × Int) × List Int)
 | [], met, u => some (met, u)
 | l :: ls, met, u => (roundR n h l met (List.replicate 6 false) (List.replicate 3 false) u).bind fun p => allR n h ls p.1 p.2
def zeros18 : List Int := List.replicate 18 0
def rightF (n : Int) (h : Nat) (s : List (List S57)) : List Int × Bool :=
 if (allR n h s [] zeros18).isSome = true then (((allR n h s [] zeros18).getD ([], [])).2, decide ((s.length : Int) = n - 1 + Int.tmod n 2) && decide ((((allR n h s [] zeros18).getD ([], [])).1.length : Int) = Int.tdiv (n * (n - 1)) 2)) else (zeros18, false)
set_option maxRecDepth 100000 in
set_option maxHeartbeats 8000000 in
theorem right_calls (n : Int) (h : Nat) (hh : wrap64 (Int.tdiv n 2) = h) (h1 : 1 ≤ h) (h3 : h ≤ 3) (n2 : 2 ≤ n) (n6 : n ≤ 6) (A : Option Addr) (c : Nat) (s : List (List S57)) (w : World) (hr : Kd.C (Kd.slice 57 k57) w A s.length s) :
  Calls Try.prog 66 #[.int .i64 n, .slice A s.length c] w fun e w' => e = .returned (.tuple #[.agg (arrV (rightF n h s).1), .bool (rightF n h s).2]) ∧ Below w.heap.size w w' := by
 have HH := Lib.hid hh
 have HR := Aside0.mk hr
 have hm : s.length ≤ 9223372036854775807 := hr.2.1
 have hmm : ∀ W : World, (Instr.makeMap 136 none).run Try.prog W = .ok (.map (some W.heap.size)) (W.alloc (.map #[] 0)) := fun W => rfl
 clear hh hr
 go_enter Try.func66, Try.ntmps66
 go_wp2
 clear hmm
 obtain ⟨W0, hW0⟩ : ∃ W, W = ((w.alloc (.cells (arrV zeros18) 110)).alloc (.map #[] 0)) := ⟨_, rfl⟩
 change Code.wp _ _ _ _ ((w.alloc (.cells (arrV zeros18) 110)).alloc (.map #[] 0))
 rw [← hW0]
 have HU0 : Aside0 (ArrAt W0 w.heap.size 110 zeros18) := ⟨by rw [hW0]; exact blk_alloc (blk_new _ _) _⟩
 have HM0 : Aside0 (MapAt W0 (w.heap.size + 1) []) := ⟨by
  rw [hW0]
  have := blk_new (w.alloc (.cells (arrV zeros18) 110)) (.map #[] 0)
  rw [show (w.alloc (.cells (arrV zeros18) 110)).heap.size = w.heap.size + 1 from by simp] at this
  exact this⟩
 have HB0 : Aside0 (Below w.heap.size w W0) := ⟨by rw [hW0]; exact below_alloc (below_alloc (Below.refl _ _) _) _⟩
 clear hW0
 obtain ⟨R, hR⟩ : ∃ R, allR n h s [] zeros18 = R := ⟨_, rfl⟩
 have HRR := Lib.hid hR
 clear hR
 go_loopw [17] (fun v wr => ∃ (k : Nat) (met : List (Int × Int)) (u : List Int), v = .int .i64 k ∧ k ≤ s.length ∧ Aside0 (allR n h (s.drop k) met u = R) ∧ Aside0 (u.length = 18) ∧ Aside0 (ArrAt wr w.heap.size 110 u) ∧ Aside0 (MapAt wr (w.heap.size + 1) met) ∧ Aside0 (Below w.heap.size w wr)) (fun v _ => s.length - (intOf v).toNat)
 case atStart => exact ⟨0, [], zeros18, rfl, Nat.zero_le _, ⟨by rw [List.drop_zero]; exact HRR.out⟩, ⟨by decide⟩, HU0, HM0, HB0⟩
 case round =>
  obtain ⟨k, met, u, rfl, hk, hX, hul, hU, hM, hB⟩ := hrel
  by_cases hlt : k < s.length
  ·
   obtain ⟨ad, A1, c1, rfl, q0w, hc1, hr1⟩ := at_L7 HR.out (k : Int) (by omega) (by omega)
   have q0 := (hB.out.cell (World.block_lt_of_cell? w _ q0w)).trans q0w
   clear q0w
   rw [Int.toNat_natCast] at q0
   obtain ⟨row, hrow⟩ : ∃ row, rd_L7 s (k : Int) = row := ⟨_, rfl⟩
   have HROW : Hid (s.drop k = row :: s.drop (k + 1)) := by
    show _ = _
    rw [List.drop_eq_getElem_cons hlt, ← hrow]
    show _ = (s.getD k []) :: _
    rw [List.getD_eq_getElem?_getD, List.getElem?_eq_getElem hlt]; rfl
   rw [hrow] at q0 hc1 hr1
   have HR1 := Aside0.mk hr1
   have hm1 : row.length ≤ 9223372036854775807 := hr1.2.1
   clear hrow hc1 hr1
   go_wp2
   obtain ⟨W1, hW1⟩ : ∃ W, W = ((wr.alloc (.cells (boolV (List.replicate 6 false)) 137)).alloc (.cells (boolV (List.replicate 3 false)) 138)) := ⟨_, rfl⟩
   change Code.wp _ _ _ _ ((wr.alloc (.cells (boolV (List.replicate 6 false)) 137)).alloc (.cells (boolV (List.replicate 3 false)) 138))
   rw [← hW1]
   obtain ⟨b9, hb9⟩ : ∃ b9, wr.heap.size = b9 := ⟨_, rfl⟩
   have HK1 : Aside0 (BArr W1 b9 137 (List.replicate 6 false)) := ⟨by rw [hW1, ← hb9]; exact blk_alloc (blk_new _ _) _⟩
   have HT1 : Aside0 (BArr W1 (b9 + 1) 138 (List.replicate 3 false)) := ⟨by
    rw [hW1, ← hb9]
    have := blk_new (wr.alloc (.cells (boolV (List.replicate 6 false)) 137)) (.cells (boolV (List.replicate 3 false)) 138)
    rw [show (wr.alloc (.cells (boolV (List.replicate 6 false)) 137)).heap.size = wr.heap.size + 1 from by simp] at this
    exact this⟩
   have hbw : Below wr.heap.size wr W1 := by rw [hW1]; exact below_alloc (below_alloc (Below.refl _ _) _) _
   have HU1 := Aside0.mk (hU.out.below hbw)
   have HM1 := Aside0.mk (hM.out.below hbw)
   have HB1 : Aside0 (Below w.heap.size w W1) := ⟨below_step hB.out hbw⟩
   have hlm : w.heap.size + 1 < b9 := by rw [← hb9]; exact blk_lt hM.out
   have HX1 : Hid ((roundR n h row met (List.replicate 6 false) (List.replicate 3 false) u).bind (fun p => allR n h (s.drop (k + 1)) p.1 p.2) = R) := by
    have := hX.out
    rw [HROW.out] at this
    exact this
   rw [hb9]
   have hszs : w.heap.size ≤ wr.heap.size := hB.out.size
   clear hW1 hbw hb9
   go_loopw [23] (fun v w1 => ∃ (j : Nat) (met' : List (Int × Int)) (busy taken : List Bool) (u' : List Int), v = .int .i64 j ∧ j ≤ row.length ∧ Aside0 ((roundR n h (row.drop j) met' busy taken u').bind (fun p => allR n h (s.drop (k + 1)) p.1 p.2) = R) ∧ Aside0 (busy.length = 6 ∧ taken.length = 3 ∧ u'.length = 18) ∧
    Aside0 (ArrAt w1 w.heap.size 110 u') ∧ Aside0 (MapAt w1 (w.heap.size + 1) met') ∧ Aside0 (BArr w1 b9 137 busy) ∧ Aside0 (BArr w1 (b9 + 1) 138 taken) ∧ Aside0 (Below w.heap.size w w1)) (fun v _ => row.length - (intOf v).toNat)
   case atStart => exact ⟨0, met, _, _, u, rfl, Nat.zero_le _, ⟨by rw [List.drop_zero]; exact HX1.out⟩, ⟨by simp, by simp, hul.out⟩, HU1, HM1, HK1, HT1, HB1⟩
   case round =>
    obtain ⟨j, met', busy, taken, u', rfl, hj, hX2, hlens, hU2, hM2, hK2, hT2, hB2⟩ := hrel
    by_cases hlj : j < row.length
    ·
     obtain ⟨am, ea, g0, g1, g2⟩ := at_T57 (Kd.C_below HR1.out hB2.out) (j : Int) (by omega) (by omega)
     cases ea
     simp only [Int.toNat_natCast] at g0 g1 g2
     obtain ⟨m, hmm⟩ : ∃ m, rd_T57 row (j : Int) = m := ⟨_, rfl⟩
     have HD : Hid (row.drop j = m :: row.drop (j + 1)) := by
      show _ = _
      rw [List.drop_eq_getElem_cons hlj, ← hmm]
      show _ = (row.getD j z57) :: _
      rw [List.getD_eq_getElem?_getD, List.getElem?_eq_getElem hlj]; rfl
     rw [hmm] at g0 g1 g2
     clear hmm
     obtain ⟨m0, m1, m2⟩ := m
     simp only at g0 g1 g2
     go_upto_region 11 with fail
     obtain ⟨W2, hW2⟩ : ∃ W, W = ((wr.alloc (.cells #[.int .i64 m0, .int .i64 m1, .int .i64 m2] 57)).alloc (.cells #[.int .i64 m0, .int .i64 m1] 140)) := ⟨_, rfl⟩
     rw [← hW2]
     obtain ⟨b12, hb12⟩ : ∃ b12, wr.heap.size = b12 := ⟨_, rfl⟩
     have hb2 : Below wr.heap.size wr W2 := by rw [hW2]; exact below_alloc (below_alloc (Below.refl _ _) _) _
     have HM3 : Aside0 (W2.heap[b12]? = some (.cells #[.int .i64 m0, .int .i64 m1, .int .i64 m2] 57 (0, 0))) := ⟨by rw [hW2, ← hb12]; exact blk_alloc (blk_new _ _) _⟩
     have HP3 : Aside0 (W2.heap[b12 + 1]? = some (.cells #[.int .i64 m0, .int .i64 m1] 140 (0, 0))) := ⟨by
      rw [hW2, ← hb12]
      have := blk_new (wr.alloc (.cells #[.int .i64 m0, .int .i64 m1, .int .i64 m2] 57)) (.cells #[.int .i64 m0, .int .i64 m1] 140)
      rw [show (wr.alloc (.cells #[.int .i64 m0, .int .i64 m1, .int .i64 m2] 57)).heap.size = wr.heap.size + 1 from by simp] at this
      exact this⟩
     have HU3 := Aside0.mk (hU2.out.below hb2)
     have HMM3 := Aside0.mk (hM2.out.below hb2)
     have HK3 := Aside0.mk (hK2.out.below hb2)
     have HT3 := Aside0.mk (hT2.out.below hb2)
     have HB3 : Aside0 (Below w.heap.size w W2) := ⟨below_step hB2.out hb2⟩
     have hlb : b9 + 1 < b12 := by rw [← hb12]; exact blk_lt hT2.out
     rw [hb12]
     clear hW2 hb2 hb12 g0 g1 g2 q0
     obtain ⟨bad, hbad⟩ : ∃ bad, badM n h met' busy taken ⟨m0, m1, m2⟩ = bad := ⟨_, rfl⟩
     have HBAD := Lib.hid hbad
     have k0 := blk_cell HM3.out 0
     have k1 := blk_cell HM3.out 1
     have k2 := blk_cell HM3.out 2
     have p0 := blk_cell HP3.out 0
     have p1 := blk_cell HP3.out 1
     simp only [List.getElem?_toArray, List.getElem?_cons_zero, List.getElem?_cons_succ] at k0 k1 k2 p0 p1
     have HLK : Hid (∀ W', W'.heap[w.heap.size + 1]? = some (.map (mapOf met').toArray met'.length) → (Instr.lookup 136 (.map (some (w.heap.size + 1))) (.agg #[.int .i64 m0, .int .i64 m1]) false).run Try.prog W' = .ok (.bool (met'.contains (m0, m1))) W') := fun W' hW => lookup_pair (p := (m0, m1)) hW
     clear hbad
     go_cut [23, 79] from 23 to 112 (fun s23 s79 wx => s23 = .int .i64 j ∧ s79 = .bool bad ∧ Aside0 (Below W2.heap.size W2 wx))
     case first =>
      by_cases t1 : m0 < 0
      ·
       have b1 : decide (m0 < 0) = true := decide_eq_true t1
       have hb : bad = true := by rw [← HBAD.out]; unfold badM; rw [b1]; rfl
       subst hb
       clear t1
       go_quiet (first | (go_at_call 99; (with_reducible refine (halls_calls n h HH.out _).mono ?_); rintro e w' ⟨rfl, ⟨nd, rfl⟩⟩; (try first | exact ⟨rfl, _, World.drewN_drewN _ _ _⟩ | exact ⟨rfl, _, Eq.trans (World.drewN_drewN _ _ _) (congrArg (World.drewN _) (Nat.add_assoc _ _ _))⟩)) | fail)
       go_wp2_with fail
       go_meet
       exact ⟨rfl, rfl, ⟨pw_below_drewN (Below.refl _ _) _⟩⟩
      have b1 : decide (m0 < 0) = false := decide_eq_false t1
      have a1 : 0 ≤ m0 := by omega
      clear t1
      by_cases t2 : m1 ≤ m0
      ·
       have b2 : decide (m1 ≤ m0) = true := decide_eq_true t2
       have hb : bad = true := by rw [← HBAD.out]; unfold badM; simp only [b1, b2, Bool.false_or, Bool.true_or]
       subst hb
       clear t2
       go_quiet (first | (go_at_call 99; (with_reducible refine (halls_calls n h HH.out _).mono ?_); rintro e w' ⟨rfl, ⟨nd, rfl⟩⟩; (try first | exact ⟨rfl, _, World.drewN_drewN _ _ _⟩ | exact ⟨rfl, _, Eq.trans (World.drewN_drewN _ _ _) (congrArg (World.drewN _) (Nat.add_assoc _ _ _))⟩)) | fail)
       go_wp2_with fail
       go_meet
       exact ⟨rfl, rfl, ⟨pw_below_drewN (Below.refl _ _) _⟩⟩
      have b2 : decide (m1 ≤ m0) = false := decide_eq_false t2
      have a2' : m0 < m1 := by omega
      clear t2
      by_cases t3 : n ≤ m1
      ·
       have b3 : decide (n ≤ m1) = true := decide_eq_true t3
       have hb : bad = true := by rw [← HBAD.out]; unfold badM; simp only [b1, b2, b3, Bool.false_or, Bool.true_or]
       subst hb
       clear t3
       go_quiet (first | (go_at_call 99; (with_reducible refine (halls_calls n h HH.out _).mono ?_); rintro e w' ⟨rfl, ⟨nd, rfl⟩⟩; (try first | exact ⟨rfl, _, World.drewN_drewN _ _ _⟩ | exact ⟨rfl, _, Eq.trans (World.drewN_drewN _ _ _) (congrArg (World.drewN _) (Nat.add_assoc _ _ _))⟩)) | fail)
       go_wp2_with fail
       go_meet
       exact ⟨rfl, rfl, ⟨pw_below_drewN (Below.refl _ _) _⟩⟩
      have b3 : decide (n ≤ m1) = false := decide_eq_false t3
      have a3 : m1 < n := by omega
      clear t3
      obtain ⟨wi, hwi⟩ : ∃ wi, (decide (0 ≤ m2) && decide (m2 ≤ (h : Int) - 1)) = wi := ⟨_, rfl⟩
      have HWI : Hid (league_within.f m2 0 ((h : Int) - 1) = some wi) := by show _ = _; rw [within_eq, hwi]
      have hwh : wrap64 ((h : Int) - 1) = (h : Int) - 1 := IntWalk.wrap64_in _ ⟨by omega, by omega⟩
      have HW4 := Lib.hid hwi
      clear hwi
      cases wi with
      | false =>
       have hb : bad = true := by rw [← HBAD.out]; unfold badM; simp only [b1, b2, b3, HW4.out, Bool.false_or, Bool.not_false, Bool.true_or]
       subst hb
       go_quiet (first | (go_at_call 99; (with_reducible refine (halls_calls n h HH.out _).mono ?_); rintro e w' ⟨rfl, ⟨nd, rfl⟩⟩; (try first | exact ⟨rfl, _, World.drewN_drewN _ _ _⟩ | exact ⟨rfl, _, Eq.trans (World.drewN_drewN _ _ _) (congrArg (World.drewN _) (Nat.add_assoc _ _ _))⟩)) | (go_at_call 81; (with_reducible refine (league_within.calls m2 0 ((h : Int) - 1) false _ HWI.out).mono ?_); rintro e w' ⟨rfl, ⟨nd, rfl⟩⟩; (try first | exact ⟨rfl, _, World.drewN_drewN _ _ _⟩ | exact ⟨rfl, _, Eq.trans (World.drewN_drewN _ _ _) (congrArg (World.drewN _) (Nat.add_assoc _ _ _))⟩)))
       go_wp2_with fail
       go_meet
       exact ⟨rfl, rfl, ⟨pw_below_drewN (Below.refl _ _) _⟩⟩
      | true =>
      have a5 : 0 ≤ m2 ∧ m2 ≤ (h : Int) - 1 := by simpa using HW4.out
      obtain ⟨a5, a6⟩ := a5
      have a7 : m2 < 3 := by omega
      have a8 : m0 < 6 := by omega
      have a9 : m1 < 6 := by omega
      have a10 : 0 ≤ m1 := by omega
      obtain ⟨cm, hcm⟩ : ∃ cm, met'.contains (m0, m1) = cm := ⟨_, rfl⟩
      have HCM := Lib.hid hcm
      have hlk : ∀ mm, (Instr.lookup 136 (.map (some (w.heap.size + 1))) (.agg #[.int .i64 m0, .int .i64 m1]) false).run Try.prog (W2.drewN mm) = .ok (.bool cm) (W2.drewN mm) := fun mm => by
       have := HLK.out (W2.drewN mm) HMM3.out
       rw [hcm] at this
       exact this
      clear hcm
      cases cm with
      | true =>
       have hb : bad = true := by rw [← HBAD.out]; unfold badM; simp only [b1, b2, b3, HW4.out, HCM.out, Bool.false_or, Bool.not_true, Bool.true_or]
       subst hb
       go_quiet (first | (go_at_call 99; (with_reducible refine (halls_calls n h HH.out _).mono ?_); rintro e w' ⟨rfl, ⟨nd, rfl⟩⟩; (try first | exact ⟨rfl, _, World.drewN_drewN _ _ _⟩ | exact ⟨rfl, _, Eq.trans (World.drewN_drewN _ _ _) (congrArg (World.drewN _) (Nat.add_assoc _ _ _))⟩)) | (go_at_call 81; (with_reducible refine (league_within.calls m2 0 ((h : Int) - 1) true _ HWI.out).mono ?_); rintro e w' ⟨rfl, ⟨nd, rfl⟩⟩; (try first | exact ⟨rfl, _, World.drewN_drewN _ _ _⟩ | exact ⟨rfl, _, Eq.trans (World.drewN_drewN _ _ _) (congrArg (World.drewN _) (Nat.add_assoc _ _ _))⟩)))
       go_wp2_with fail
       go_meet
       exact ⟨rfl, rfl, ⟨pw_below_drewN (Below.refl _ _) _⟩⟩
      | false =>
      have yy0 := HK3.out.cell m0.toNat (by rw [hlens.out.1]; omega)
      have yy1 := HK3.out.cell m1.toNat (by rw [hlens.out.1]; omega)
      have yy2 := HT3.out.cell m2.toNat (by rw [hlens.out.2.1]; omega)
      obtain ⟨y0, hy0⟩ : ∃ y, busy.getD m0.toNat false = y := ⟨_, rfl⟩
      obtain ⟨y1, hy1⟩ : ∃ y, busy.getD m1.toNat false = y := ⟨_, rfl⟩
      obtain ⟨y2, hy2⟩ : ∃ y, taken.getD m2.toNat false = y := ⟨_, rfl⟩
      rw [hy0] at yy0
      rw [hy1] at yy1
      rw [hy2] at yy2
      have HBB : Hid (bad = (y0 || (y1 || y2))) := by show _ = _; rw [← HBAD.out, ← hy0, ← hy1, ← hy2]; unfold badM; simp only [b1, b2, b3, HW4.out, HCM.out, Bool.false_or, Bool.not_true]
      clear hy0 hy1 hy2
      cases y0 with
      | true =>
       have hb : bad = true := HBB.out
       subst hb
       go_quiet (first | (go_at_call 99; (with_reducible refine (halls_calls n h HH.out _).mono ?_); rintro e w' ⟨rfl, ⟨nd, rfl⟩⟩; (try first | exact ⟨rfl, _, World.drewN_drewN _ _ _⟩ | exact ⟨rfl, _, Eq.trans (World.drewN_drewN _ _ _) (congrArg (World.drewN _) (Nat.add_assoc _ _ _))⟩)) | (go_at_call 81; (with_reducible refine (league_within.calls m2 0 ((h : Int) - 1) true _ HWI.out).mono ?_); rintro e w' ⟨rfl, ⟨nd, rfl⟩⟩; (try first | exact ⟨rfl, _, World.drewN_drewN _ _ _⟩ | exact ⟨rfl, _, Eq.trans (World.drewN_drewN _ _ _) (congrArg (World.drewN _) (Nat.add_assoc _ _ _))⟩)))
       go_wp2_with fail
       go_meet
       exact ⟨rfl, rfl, ⟨pw_below_drewN (Below.refl _ _) _⟩⟩
      | false =>
      cases y1 with
      | true =>
       have hb : bad = true := HBB.out
       subst hb
       go_quiet (first | (go_at_call 99; (with_reducible refine (halls_calls n h HH.out _).mono ?_); rintro e w' ⟨rfl, ⟨nd, rfl⟩⟩; (try first | exact ⟨rfl, _, World.drewN_drewN _ _ _⟩ | exact ⟨rfl, _, Eq.trans (World.drewN_drewN _ _ _) (congrArg (World.drewN _) (Nat.add_assoc _ _ _))⟩)) | (go_at_call 81; (with_reducible refine (league_within.calls m2 0 ((h : Int) - 1) true _ HWI.out).mono ?_); rintro e w' ⟨rfl, ⟨nd, rfl⟩⟩; (try first | exact ⟨rfl, _, World.drewN_drewN _ _ _⟩ | exact ⟨rfl, _, Eq.trans (World.drewN_drewN _ _ _) (congrArg (World.drewN _) (Nat.add_assoc _ _ _))⟩)))
       go_wp2_with fail
       go_meet
       exact ⟨rfl, rfl, ⟨pw_below_drewN (Below.refl _ _) _⟩⟩
      | false =>
       have hb : bad = y2 := HBB.out
       subst hb
       go_quiet (first | (go_at_call 99; (with_reducible refine (halls_calls n h HH.out _).mono ?_); rintro e w' ⟨rfl, ⟨nd, rfl⟩⟩; (try first | exact ⟨rfl, _, World.drewN_drewN _ _ _⟩ | exact ⟨rfl, _, Eq.trans (World.drewN_drewN _ _ _) (congrArg (World.drewN _) (Nat.add_assoc _ _ _))⟩)) | (go_at_call 81; (with_reducible refine (league_within.calls m2 0 ((h : Int) - 1) true _ HWI.out).mono ?_); rintro e w' ⟨rfl, ⟨nd, rfl⟩⟩; (try first | exact ⟨rfl, _, World.drewN_drewN _ _ _⟩ | exact ⟨rfl, _, Eq.trans (World.drewN_drewN _ _ _) (congrArg (World.drewN _) (Nat.add_assoc _ _ _))⟩)))
       go_wp2_with fail
       go_meet
       exact ⟨rfl, rfl, ⟨pw_below_drewN (Below.refl _ _) _⟩⟩
     case rest =>
      obtain ⟨rfl, rfl, hBC⟩ := hcut
      have HUc := Aside0.mk (HU3.out.below hBC.out)
      have HMc := Aside0.mk (HMM3.out.below hBC.out)
      have HKc := Aside0.mk (HK3.out.below hBC.out)
      have HTc := Aside0.mk (HT3.out.below hBC.out)
      have HBc : Aside0 (Below w.heap.size w wc) := ⟨below_step HB3.out hBC.out⟩
      have HCc := Aside0.mk (blk_below HM3.out hBC.out)
      have HPc := Aside0.mk (blk_below HP3.out hBC.out)
      clear k0 k1 k2 p0 p1 HLK
      cases bad with
      | true =>
       have HRN : Hid (R = none) := by
        have h1 := hX2.out
        rw [HD.out] at h1
        unfold roundR at h1
        rw [if_pos HBAD.out, Option.bind_none] at h1
        exact h1.symm
       have HRT : Hid (rightF n h s = (zeros18, false)) := by
        show _ = _
        unfold rightF
        rw [if_neg (by rw [HRR.out, HRN.out]; decide)]
       have HSTU : Hid ((storeVar 110 ⟨w.heap.size, 0, none⟩ (.agg (arrV zeros18))).run Try.prog wc = .ok () (wc.setRow w.heap.size (arrV zeros18))) := by
        refine run_storeVar_row (P := Try.prog) wc w.heap.size 110 110 (arrV u') (arrV zeros18) HUc.out (by rfl) ?_ (by simp [arrV, zeros18, Value.oneCell'])
        simp [arrV, zeros18, hlens.out.2.2]
       go_wp2_with ((with_reducible refine gate_store (t := 110) (p := 4) rfl ?_); refine store_event (t := 110) (p := 4) (v := ?vo) (w1 := wc.setRow w.heap.size (arrV zeros18)) ?hg ?ho ?hn ?hr ?_; (case ho => rfl); (case hg => rfl); (case hn => rfl); (case hr => exact store_exec (t := 110) (p := .tmp 4) (ad := ⟨w.heap.size, 0, none⟩) (val := .agg (arrV zeros18)) rfl rfl rfl HSTU.out); intro w66 hw)
       subst hw
       refine bodyPost_ret (res66 (setRow_arr HUc.out) (by decide) rfl rfl) rfl ⟨by rw [HRT.out], setRow_below HBc.out _ (Nat.le_refl _) _⟩
      | false =>
       have hgood := HBAD.out
       unfold badM at hgood
       simp only [Bool.or_eq_false_iff, decide_eq_false_iff_not, Bool.not_eq_false', Bool.and_eq_true, decide_eq_true_eq] at hgood
       obtain ⟨a1, a2, a3, ⟨a5, a6⟩, hcm, _, _, _⟩ := hgood
       have HCM := Lib.hid hcm
       have b0 : 0 ≤ m0 := by omega
       have b1 : m0 < 6 := by omega
       have b2 : 0 ≤ m1 := by omega
       have b3 : m1 < 6 := by omega
       have b4 : m2 < 3 := by omega
       have k0 : wc.cell? ⟨b12, 0, none⟩ = some (.int .i64 m0) := (blk_cell HCc.out 0).trans rfl
       have k1 : wc.cell? ⟨b12, 1, none⟩ = some (.int .i64 m1) := (blk_cell HCc.out 1).trans rfl
       have k2 : wc.cell? ⟨b12, 2, none⟩ = some (.int .i64 m2) := (blk_cell HCc.out 2).trans rfl
       have p0 : wc.cell? ⟨b12 + 1, 0, none⟩ = some (.int .i64 m0) := (blk_cell HPc.out 0).trans rfl
       have p1 : wc.cell? ⟨b12 + 1, 1, none⟩ = some (.int .i64 m1) := (blk_cell HPc.out 1).trans rfl
       obtain ⟨V1, hV1, hV2, hV3⟩ := update_pair (W := wc.drew) HMc.out (m0, m1) hcm
       have HV1 := Lib.hid hV1
       have HV2 := Aside0.mk hV2
       have HV3 := Aside0.mk hV3
       obtain ⟨V2, hV2⟩ : ∃ W, W = V1.setCell ⟨b9, m0.toNat, none⟩ (.bool true) := ⟨_, rfl⟩
       obtain ⟨V3, hV3⟩ : ∃ W, W = V2.setCell ⟨b9, m1.toNat, none⟩ (.bool true) := ⟨_, rfl⟩
       obtain ⟨V4, hV4⟩ : ∃ W, W = V3.setCell ⟨b9 + 1, m2.toNat, none⟩ (.bool true) := ⟨_, rfl⟩
       have HK1' : Aside0 (BArr V1 b9 137 busy) := ⟨HKc.out.same (HV3.out.block b9 (blk_lt HKc.out) (fun e => by injection e with e; omega))⟩
       have HT1' : Aside0 (BArr V1 (b9 + 1) 138 taken) := ⟨HTc.out.same (HV3.out.block (b9 + 1) (blk_lt HTc.out) (fun e => by injection e with e; omega))⟩
       have HK2' : Aside0 (BArr V2 b9 137 (busy.set m0.toNat true)) := ⟨by rw [hV2]; exact HK1'.out.set _ _⟩
       have HT2' : Aside0 (BArr V2 (b9 + 1) 138 taken) := ⟨by rw [hV2]; exact HT1'.out.same (Below.heap_setCell V1 ⟨b9, _, none⟩ _ (b9 + 1) (show b9 + 1 ≠ b9 by omega))⟩
       have HK3' : Aside0 (BArr V3 b9 137 ((busy.set m0.toNat true).set m1.toNat true)) := ⟨by rw [hV3]; exact HK2'.out.set _ _⟩
       have HT3' : Aside0 (BArr V3 (b9 + 1) 138 taken) := ⟨by rw [hV3]; exact HT2'.out.same (Below.heap_setCell V2 ⟨b9, _, none⟩ _ (b9 + 1) (show b9 + 1 ≠ b9 by omega))⟩
       have HK4' : Aside0 (BArr V4 b9 137 ((busy.set m0.toNat true).set m1.toNat true)) := ⟨by rw [hV4]; exact HK3'.out.same (Below.heap_setCell V3 ⟨b9 + 1, _, none⟩ _ b9 (show b9 ≠ b9 + 1 by omega))⟩
       have HT4' : Aside0 (BArr V4 (b9 + 1) 138 (taken.set m2.toNat true)) := ⟨by rw [hV4]; exact HT3'.out.set _ _⟩
       have HFAR : Aside0 (∀ k, k ≠ w.heap.size + 1 → k ≠ b9 → k ≠ b9 + 1 → k < wc.heap.size → V4.heap[k]? = wc.heap[k]? ∧ V3.heap[k]? = wc.heap[k]? ∧ V2.heap[k]? = wc.heap[k]? ∧ V1.heap[k]? = wc.heap[k]?) := ⟨fun k e1 e2 e3 e4 => by
        have f1 : V1.heap[k]? = wc.heap[k]? := HV3.out.block k e4 (fun e => e1 (by injection e))
        have f2 : V2.heap[k]? = wc.heap[k]? := by rw [hV2]; exact (Below.heap_setCell V1 ⟨b9, _, none⟩ _ k e2).trans f1
        have f3 : V3.heap[k]? = wc.heap[k]? := by rw [hV3]; exact (Below.heap_setCell V2 ⟨b9, _, none⟩ _ k e2).trans f2
        have f4 : V4.heap[k]? = wc.heap[k]? := by rw [hV4]; exact (Below.heap_setCell V3 ⟨b9 + 1, _, none⟩ _ k e3).trans f3
        exact ⟨f4, f3, f2, f1⟩⟩
       have HL12 := Aside0.mk (blk_lt HCc.out)
       have HL13 := Aside0.mk (blk_lt HPc.out)
       have hz1 : w.heap.size + 1 < b9 := hlm
       have HW2 : Hid (V2 = _) := hV2
       have HW3 : Hid (V3 = _) := hV3
       have HW4 : Hid (V4 = _) := hV4
       clear hcm hV1 a1 a2 a3 hV2 hV3 hV4
       go_upto_region 13 with fail
       refine start_ (n := 15) (S := fun w' => w'.cell? ⟨b12, 0, none⟩ = some (.int .i64 m0) ∧ w'.cell? ⟨b12, 1, none⟩ = some (.int .i64 m1) ∧ w'.cell? ⟨b12, 2, none⟩ = some (.int .i64 m2) ∧ w'.cell? ⟨b12 + 1, 0, none⟩ = some (.int .i64 m0) ∧ w'.cell? ⟨b12 + 1, 1, none⟩ = some (.int .i64 m1)) (ds := []) #[false, false, false, false, false, false, false, false, false, false, false, false, false, false, false] (by kernel_rfl) rfl rfl ⟨k0, k1, k2, p0, p1⟩ (fun hHeld => ?_)
       refine pure_ (i := 0) (N := some 81) (v := ?_) (a' := ?_) #[true, false, false, false, false, false, false, false, false, false, false, false, false, false, false] rfl rfl (by kernel_rfl) (fun _ _ _ h => h) (Or.inl ⟨by rfl, ?_⟩) ?_ ?_
       rotate_left
       ·
        intro w'
        go_simp
        with_reducible rfl
       rotate_left
       ·
        simp only [Act.put, List.setIfInBounds_toArray, List.set_cons_zero, List.set_cons_succ, i64_w, i32_w]
        rfl
       refine pure_ (i := 2) (N := some 83) (v := ?_) (a' := ?_) #[true, false, true, false, false, false, false, false, false, false, false, false, false, false, false] rfl rfl (by kernel_rfl) (fun _ _ _ h => h) (Or.inl ⟨by rfl, ?_⟩) ?_ ?_
       rotate_left
       ·
        intro w'
        go_simp
        with_reducible rfl
       rotate_left
       ·
        simp only [Act.put, List.setIfInBounds_toArray, List.set_cons_zero, List.set_cons_succ, i64_w, i32_w]
        rfl
       refine pure_ (i := 4) (N := some 85) (v := ?_) (a' := ?_) #[true, false, true, false, true, false, false, false, false, false, false, false, false, false, false] rfl rfl (by kernel_rfl) (fun _ _ _ h => h) (Or.inl ⟨by rfl, ?_⟩) ?_ ?_
       rotate_left
       ·
        intro w'
        go_simp
        with_reducible rfl
       rotate_left
       ·
        simp only [Act.put, List.setIfInBounds_toArray, List.set_cons_zero, List.set_cons_succ, i64_w, i32_w]
        rfl
       refine pure_ (i := 6) (N := some 87) (v := ?_) (a' := ?_) #[true, false, true, false, true, false, true, false, false, false, false, false, false, false, false] rfl rfl (by kernel_rfl) (fun _ _ _ h => h) (Or.inl ⟨by rfl, ?_⟩) ?_ ?_
       rotate_left
       ·
        intro w'
        go_simp
        with_reducible rfl
       rotate_left
       ·
        simp only [Act.put, List.setIfInBounds_toArray, List.set_cons_zero, List.set_cons_succ, i64_w, i32_w]
        rfl
       refine take_ (i := 1) (N := some 82) (v := ?_) (a' := ?_) #[true, true, true, false, true, false, true, false, false, false, false, false, false, false, false] rfl rfl (by kernel_rfl) (fun _ _ _ h => h) (Or.inl ⟨by rfl, ?_⟩) hHeld ?_ ?_
       rotate_left
       ·
        rintro w' ⟨s0, s1, s2, s3, s4⟩
        go_simp
        with_reducible rfl
       rotate_left
       ·
        simp only [Act.put, List.setIfInBounds_toArray, List.set_cons_zero, List.set_cons_succ, i64_w, i32_w]
        rfl
       refine take_ (i := 3) (N := some 84) (v := ?_) (a' := ?_) #[true, true, true, true, true, false, true, false, false, false, false, false, false, false, false] rfl rfl (by kernel_rfl) (fun _ _ _ h => h) (Or.inl ⟨by rfl, ?_⟩) hHeld ?_ ?_
       rotate_left
       ·
        rintro w' ⟨s0, s1, s2, s3, s4⟩
        go_simp
        with_reducible rfl
       rotate_left
       ·
        simp only [Act.put, List.setIfInBounds_toArray, List.set_cons_zero, List.set_cons_succ, i64_w, i32_w]
        rfl
       refine take_ (i := 5) (N := some 86) (v := ?_) (a' := ?_) #[true, true, true, true, true, true, true, false, false, false, false, false, false, false, false] rfl rfl (by kernel_rfl) (fun _ _ _ h => h) (Or.inl ⟨by rfl, ?_⟩) hHeld ?_ ?_
       rotate_left
       ·
        rintro w' ⟨s0, s1, s2, s3, s4⟩
        go_simp
        with_reducible rfl
       rotate_left
       ·
        simp only [Act.put, List.setIfInBounds_toArray, List.set_cons_zero, List.set_cons_succ, i64_w, i32_w]
        rfl
       refine take_ (i := 7) (N := some 88) (v := ?_) (a' := ?_) #[true, true, true, true, true, true, true, true, false, false, false, false, false, false, false] rfl rfl (by kernel_rfl) (fun _ _ _ h => h) (Or.inl ⟨by rfl, ?_⟩) hHeld ?_ ?_
       rotate_left
       ·
        rintro w' ⟨s0, s1, s2, s3, s4⟩
        go_simp
        with_reducible rfl
       rotate_left
       ·
        simp only [Act.put, List.setIfInBounds_toArray, List.set_cons_zero, List.set_cons_succ, i64_w, i32_w]
        rfl
       refine one_ (i := 8) (N := none) #[true, true, true, true, true, true, true, true, true, false, false, false, false, false, false] rfl rfl (by kernel_rfl) (by decide) (fun K hK => ?_)
       refine update_step (w1 := V1) (by rfl) rfl rfl rfl rfl rfl HV1.out ?_
       refine hK.out _ _ ⟨(World.cell?_of_block (a := ⟨b12, 0, none⟩) ((HFAR.out (b12) (by omega) (by omega) (by omega) HL12.out).2.2.2)).trans k0, (World.cell?_of_block (a := ⟨b12, 1, none⟩) ((HFAR.out (b12) (by omega) (by omega) (by omega) HL12.out).2.2.2)).trans k1, (World.cell?_of_block (a := ⟨b12, 2, none⟩) ((HFAR.out (b12) (by omega) (by omega) (by omega) HL12.out).2.2.2)).trans k2, (World.cell?_of_block (a := ⟨b12 + 1, 0, none⟩) ((HFAR.out (b12 + 1) (by omega) (by omega) (by omega) HL13.out).2.2.2)).trans p0, (World.cell?_of_block (a := ⟨b12 + 1, 1, none⟩) ((HFAR.out (b12 + 1) (by omega) (by omega) (by omega) HL13.out).2.2.2)).trans p1⟩ (fun hHeld => ?_)
       clear hK K
       refine pure_ (i := 9) (N := some 89) (v := ?_) (a' := ?_) #[true, true, true, true, true, true, true, true, true, true, false, false, false, false, false] rfl rfl (by kernel_rfl) (fun _ _ _ h => h) (Or.inl ⟨by rfl, ?_⟩) ?_ ?_
       rotate_left
       ·
        intro w'
        go_simp
        with_reducible rfl
       rotate_left
       ·
        simp only [Act.put, List.setIfInBounds_toArray, List.set_cons_zero, List.set_cons_succ, i64_w, i32_w]
        rfl
       refine one_ (i := 10) (N := none) #[true, true, true, true, true, true, true, true, true, true, true, false, false, false, false] rfl rfl (by kernel_rfl) (by decide) (fun K hK => ?_)
       have cc := HK1'.out.cell m0.toNat (by simp [hlens.out.1, hlens.out.2.1]; omega)
       have cf := HK1'.out.frozen m0.toNat
       refine skip_ (w1 := V2) (by rfl) rfl ?_ ?_
       ·
        rw [HW2.out]
        go_simp
       clear cc cf
       refine hK.out _ _ ⟨(World.cell?_of_block (a := ⟨b12, 0, none⟩) ((HFAR.out (b12) (by omega) (by omega) (by omega) HL12.out).2.2.1)).trans k0, (World.cell?_of_block (a := ⟨b12, 1, none⟩) ((HFAR.out (b12) (by omega) (by omega) (by omega) HL12.out).2.2.1)).trans k1, (World.cell?_of_block (a := ⟨b12, 2, none⟩) ((HFAR.out (b12) (by omega) (by omega) (by omega) HL12.out).2.2.1)).trans k2, (World.cell?_of_block (a := ⟨b12 + 1, 0, none⟩) ((HFAR.out (b12 + 1) (by omega) (by omega) (by omega) HL13.out).2.2.1)).trans p0, (World.cell?_of_block (a := ⟨b12 + 1, 1, none⟩) ((HFAR.out (b12 + 1) (by omega) (by omega) (by omega) HL13.out).2.2.1)).trans p1⟩ (fun hHeld => ?_)
       clear hK K
       refine pure_ (i := 11) (N := some 90) (v := ?_) (a' := ?_) #[true, true, true, true, true, true, true, true, true, true, true, true, false, false, false] rfl rfl (by kernel_rfl) (fun _ _ _ h => h) (Or.inl ⟨by rfl, ?_⟩) ?_ ?_
       rotate_left
       ·
        intro w'
        go_simp
        with_reducible rfl
       rotate_left
       ·
        simp only [Act.put, List.setIfInBounds_toArray, List.set_cons_zero, List.set_cons_succ, i64_w, i32_w]
        rfl
       refine one_ (i := 12) (N := none) #[true, true, true, true, true, true, true, true, true, true, true, true, true, false, false] rfl rfl (by kernel_rfl) (by decide) (fun K hK => ?_)
       have cc := HK2'.out.cell m1.toNat (by simp [hlens.out.1, hlens.out.2.1]; omega)
       have cf := HK2'.out.frozen m1.toNat
       refine skip_ (w1 := V3) (by rfl) rfl ?_ ?_
       ·
        rw [HW3.out]
        go_simp
       clear cc cf
       refine hK.out _ _ ⟨(World.cell?_of_block (a := ⟨b12, 0, none⟩) ((HFAR.out (b12) (by omega) (by omega) (by omega) HL12.out).2.1)).trans k0, (World.cell?_of_block (a := ⟨b12, 1, none⟩) ((HFAR.out (b12) (by omega) (by omega) (by omega) HL12.out).2.1)).trans k1, (World.cell?_of_block (a := ⟨b12, 2, none⟩) ((HFAR.out (b12) (by omega) (by omega) (by omega) HL12.out).2.1)).trans k2, (World.cell?_of_block (a := ⟨b12 + 1, 0, none⟩) ((HFAR.out (b12 + 1) (by omega) (by omega) (by omega) HL13.out).2.1)).trans p0, (World.cell?_of_block (a := ⟨b12 + 1, 1, none⟩) ((HFAR.out (b12 + 1) (by omega) (by omega) (by omega) HL13.out).2.1)).trans p1⟩ (fun hHeld => ?_)
       clear hK K
       refine pure_ (i := 13) (N := some 91) (v := ?_) (a' := ?_) #[true, true, true, true, true, true, true, true, true, true, true, true, true, true, false] rfl rfl (by kernel_rfl) (fun _ _ _ h => h) (Or.inl ⟨by rfl, ?_⟩) ?_ ?_
       rotate_left
       ·
        intro w'
        go_simp
        with_reducible rfl
       rotate_left
       ·
        simp only [Act.put, List.setIfInBounds_toArray, List.set_cons_zero, List.set_cons_succ, i64_w, i32_w]
        rfl
       refine one_ (i := 14) (N := none) #[true, true, true, true, true, true, true, true, true, true, true, true, true, true, true] rfl rfl (by kernel_rfl) (by decide) (fun K hK => ?_)
       have cc := HT3'.out.cell m2.toNat (by simp [hlens.out.1, hlens.out.2.1]; omega)
       have cf := HT3'.out.frozen m2.toNat
       refine skip_ (w1 := V4) (by rfl) rfl ?_ ?_
       ·
        rw [HW4.out]
        go_simp
       clear cc cf
       refine hK.out _ _ ⟨(World.cell?_of_block (a := ⟨b12, 0, none⟩) ((HFAR.out (b12) (by omega) (by omega) (by omega) HL12.out).1)).trans k0, (World.cell?_of_block (a := ⟨b12, 1, none⟩) ((HFAR.out (b12) (by omega) (by omega) (by omega) HL12.out).1)).trans k1, (World.cell?_of_block (a := ⟨b12, 2, none⟩) ((HFAR.out (b12) (by omega) (by omega) (by omega) HL12.out).1)).trans k2, (World.cell?_of_block (a := ⟨b12 + 1, 0, none⟩) ((HFAR.out (b12 + 1) (by omega) (by omega) (by omega) HL13.out).1)).trans p0, (World.cell?_of_block (a := ⟨b12 + 1, 1, none⟩) ((HFAR.out (b12 + 1) (by omega) (by omega) (by omega) HL13.out).1)).trans p1⟩ (fun hHeld => ?_)
       clear hK K
       refine done_ (by kernel_rfl) ?_
       have HU4 : Aside0 (ArrAt V4 w.heap.size 110 u') := ⟨(HFAR.out w.heap.size (by omega) (by omega) (by omega) (blk_lt HUc.out)).1.trans HUc.out⟩
       have HM4 : Aside0 (MapAt V4 (w.heap.size + 1) (met' ++ [(m0, m1)])) := ⟨by
        have f2 : V2.heap[w.heap.size + 1]? = V1.heap[w.heap.size + 1]? := by rw [HW2.out]; exact Below.heap_setCell V1 ⟨b9, _, none⟩ _ _ (show w.heap.size + 1 ≠ b9 by omega)
        have f3 : V3.heap[w.heap.size + 1]? = V2.heap[w.heap.size + 1]? := by rw [HW3.out]; exact Below.heap_setCell V2 ⟨b9, _, none⟩ _ _ (show w.heap.size + 1 ≠ b9 by omega)
        have f4 : V4.heap[w.heap.size + 1]? = V3.heap[w.heap.size + 1]? := by rw [HW4.out]; exact Below.heap_setCell V3 ⟨b9 + 1, _, none⟩ _ _ (show w.heap.size + 1 ≠ b9 + 1 by omega)
        exact (f4.trans (f3.trans f2)).trans HV2.out⟩
       have HB4 : Aside0 (Below w.heap.size w V4) := ⟨by
        have h1 : Below w.heap.size w V1 := (below_drew1 HBc.out).grown HV3.out (by exact HBc.out.size) (fun k e => by injection e; omega)
        rw [HW4.out, HW3.out, HW2.out]
        exact below_store (below_store (below_store h1 b9 _ (by omega) _) b9 _ (by omega) _) (b9 + 1) _ (by omega) _⟩
       have d0 : V4.cell? ⟨b12, 0, none⟩ = some (.int .i64 m0) := (World.cell?_of_block (a := ⟨b12, 0, none⟩) (HFAR.out b12 (by omega) (by omega) (by omega) HL12.out).1).trans k0
       have d1 : V4.cell? ⟨b12, 1, none⟩ = some (.int .i64 m1) := (World.cell?_of_block (a := ⟨b12, 1, none⟩) (HFAR.out b12 (by omega) (by omega) (by omega) HL12.out).1).trans k1
       have d2 : V4.cell? ⟨b12, 2, none⟩ = some (.int .i64 m2) := (World.cell?_of_block (a := ⟨b12, 2, none⟩) (HFAR.out b12 (by omega) (by omega) (by omega) HL12.out).1).trans k2
       have gu : b12 ≠ w.heap.size := by omega
       clear k0 k1 k2 p0 p1
       have ua := HU4.out.cell (m0.toNat * 3 + m2.toNat) (by rw [hlens.out.2.2]; omega)
       have uaf := HU4.out.frozen (m0.toNat * 3 + m2.toNat)
       go_upto_region 14 with fail
       go_still_tail 10, (by kernel_rfl)
       change wpList _ _ _ _ _ V4.drew
       have ua2 : V4.drew.cell? ⟨w.heap.size, m0.toNat * 3 + m2.toNat, none⟩ = some (.int .i64 (u'.getD (m0.toNat * 3 + m2.toNat) 0)) := ua
       have uaf2 : V4.drew.frozen? ⟨w.heap.size, m0.toNat * 3 + m2.toNat, none⟩ = false := uaf
       have e0 : V4.drew.cell? ⟨b12, 0, none⟩ = _ := d0
       have e1 : V4.drew.cell? ⟨b12, 1, none⟩ = _ := d1
       have e2 : V4.drew.cell? ⟨b12, 2, none⟩ = _ := d2
       clear ua uaf d0 d1 d2
       go_upto_region 15 with fail
       clear ua2 uaf2
       obtain ⟨V5, hV5⟩ : ∃ W, W = (V4.setCell ⟨w.heap.size, m0.toNat * 3 + m2.toNat, none⟩ (.int .i64 (wrap64 (u'[m0.toNat * 3 + m2.toNat]?.getD 0 + 1)))).drew := ⟨_, rfl⟩
       rw [← hV5]
       have HU5 : Aside0 (ArrAt V5 w.heap.size 110 (useAt u' m0 m2 1)) := ⟨by
        rw [hV5]
        unfold useAt
        rw [List.getD_eq_getElem?_getD]
        exact HU4.out.set _ _⟩
       have hsm : ∀ k, k ≠ w.heap.size → V5.heap[k]? = V4.heap[k]? := fun k hk => by rw [hV5]; exact Below.heap_setCell V4 ⟨w.heap.size, _, none⟩ _ k hk
       have HM5 : Aside0 (MapAt V5 (w.heap.size + 1) (met' ++ [(m0, m1)])) := ⟨(hsm _ (by omega)).trans HM4.out⟩
       have HK5 : Aside0 (BArr V5 b9 137 ((busy.set m0.toNat true).set m1.toNat true)) := ⟨HK4'.out.same (hsm _ (by omega))⟩
       have HT5 : Aside0 (BArr V5 (b9 + 1) 138 (taken.set m2.toNat true)) := ⟨HT4'.out.same (hsm _ (by omega))⟩
       have HB5 : Aside0 (Below w.heap.size w V5) := ⟨by rw [hV5]; exact below_drew1 (below_store HB4.out _ _ (Nat.le_refl _) _)⟩
       have d1 : V5.cell? ⟨b12, 1, none⟩ = some (.int .i64 m1) := (World.cell?_of_block (a := ⟨b12, 1, none⟩) (hsm b12 gu)).trans e1
       have d2 : V5.cell? ⟨b12, 2, none⟩ = some (.int .i64 m2) := (World.cell?_of_block (a := ⟨b12, 2, none⟩) (hsm b12 gu)).trans e2
       clear e0 e1 e2 hsm hV5
       have ua := HU5.out.cell (m1.toNat * 3 + m2.toNat) (by simp [useAt, hlens.out.2.2]; omega)
       have uaf := HU5.out.frozen (m1.toNat * 3 + m2.toNat)
       go_still_tail 10, (by kernel_rfl)
       change wpList _ _ _ _ _ V5.drew
       have ua2 : V5.drew.cell? ⟨w.heap.size, m1.toNat * 3 + m2.toNat, none⟩ = some (.int .i64 ((useAt u' m0 m2 1).getD (m1.toNat * 3 + m2.toNat) 0)) := ua
       have uaf2 : V5.drew.frozen? ⟨w.heap.size, m1.toNat * 3 + m2.toNat, none⟩ = false := uaf
       have e1 : V5.drew.cell? ⟨b12, 1, none⟩ = _ := d1
       have e2 : V5.drew.cell? ⟨b12, 2, none⟩ = _ := d2
       clear ua uaf d1 d2
       go_upto_region 16 with fail
       clear ua2 uaf2 e1 e2
       obtain ⟨V6, hV6⟩ : ∃ W, W = (V5.setCell ⟨w.heap.size, m1.toNat * 3 + m2.toNat, none⟩ (.int .i64 (wrap64 ((useAt u' m0 m2 1)[m1.toNat * 3 + m2.toNat]?.getD 0 + 1)))).drew := ⟨_, rfl⟩
       rw [← hV6]
       have HU6 : Aside0 (ArrAt V6 w.heap.size 110 (useM u' ⟨m0, m1, m2⟩)) := ⟨by
        rw [hV6]
        unfold useM
        have := HU5.out.set (m1.toNat * 3 + m2.toNat) (wrap64 ((useAt u' m0 m2 1)[m1.toNat * 3 + m2.toNat]?.getD 0 + 1))
        rw [← List.getD_eq_getElem?_getD] at this ⊢
        exact this⟩
       have hsm : ∀ k, k ≠ w.heap.size → V6.heap[k]? = V5.heap[k]? := fun k hk => by rw [hV6]; exact Below.heap_setCell V5 ⟨w.heap.size, _, none⟩ _ k hk
       have HM6 : Aside0 (MapAt V6 (w.heap.size + 1) (met' ++ [(m0, m1)])) := ⟨(hsm _ (by omega)).trans HM5.out⟩
       have HK6 : Aside0 (BArr V6 b9 137 ((busy.set m0.toNat true).set m1.toNat true)) := ⟨HK5.out.same (hsm _ (by omega))⟩
       have HT6 : Aside0 (BArr V6 (b9 + 1) 138 (taken.set m2.toNat true)) := ⟨HT5.out.same (hsm _ (by omega))⟩
       have HB6 : Aside0 (Below w.heap.size w V6) := ⟨by rw [hV6]; exact below_drew1 (below_store HB5.out _ _ (Nat.le_refl _) _)⟩
       have HX6 : Hid ((roundR n h (row.drop (j + 1)) (met' ++ [(m0, m1)]) ((busy.set m0.toNat true).set m1.toNat true) (taken.set m2.toNat true) (useM u' ⟨m0, m1, m2⟩)).bind (fun p => allR n h (s.drop (k + 1)) p.1 p.2) = R) := by
        have h1 := hX2.out
        rw [HD.out] at h1
        unfold roundR at h1
        rw [if_neg (by rw [HBAD.out]; decide)] at h1
        exact h1
       clear hsm hV6
       go_wp2
       go_roundw
       case rel => exact ⟨j + 1, _, _, _, _, by simp, by omega, ⟨HX6.out⟩, ⟨by simp [hlens.out.1], by simp [hlens.out.2.1], by simp [useM, useAt, hlens.out.2.2]⟩, HU6, HM6, HK6, HT6, HB6⟩
       case measure => simp [intOf]; omega
    ·
     obtain rfl : j = row.length := by omega
     have hX3 : allR n h (s.drop (k + 1)) met' u' = R := by
      have := hX2.out
      rw [List.drop_length] at this
      exact this
     have HX3 := Lib.hid hX3
     clear hX3
     go_wp2
     go_roundw
     case rel => exact ⟨k + 1, met', u', by simp, by omega, ⟨HX3.out⟩, ⟨hlens.out.2.2⟩, hU2, hM2, hB2⟩
     case measure => simp [intOf]; omega
  ·
   obtain rfl : k = s.length := by omega
   have hX3 : some (met, u) = R := by
    have := hX.out
    rw [List.drop_length] at this
    exact this
   have HRT : Hid (rightF n h s = (u, decide ((s.length : Int) = n - 1 + Int.tmod n 2) && decide ((met.length : Int) = Int.tdiv (n * (n - 1)) 2))) := by
    show _ = _
    unfold rightF
    rw [HRR.out, ← hX3]
    rfl
   have HLD : Hid (∀ (W : World), ArrAt W w.heap.size 110 u → (loadVar 110 ⟨w.heap.size, 0, none⟩).run Try.prog W = .ok (.agg (arrV u)) W) := by
    intro W hu
    refine run_loadVar_row W w.heap.size 110 110 (arrV u) (0, 0) (.array 6 108) hu (by kernel_rfl) rfl ?_
    have : (arrV u).size = 18 := by simp [arrV, hul.out]
    rw [this]
    rfl
   have HCN : Hid (league_count.f n = some (n - 1 + Int.tmod n 2)) := by
    show _ = _
    unfold league_count.f
    have : n = 2 ∨ n = 3 ∨ n = 4 ∨ n = 5 ∨ n = 6 := by omega
    rcases this with rfl | rfl | rfl | rfl | rfl <;> (unfold wrap64; decide)
   have u0 := hU.out
   have m0 : wr.heap[w.heap.size + 1]? = some (.map (mapOf met).toArray met.length) := hM.out
   have HCNT := HCN.out
   obtain ⟨cnt, hcnt⟩ : ∃ cnt, n - 1 + Int.tmod n 2 = cnt := ⟨_, rfl⟩
   rw [hcnt] at HCN HRT
   clear hcnt HCNT
   by_cases hc : (s.length : Int) = cnt
   ·
    have b1 : ((s.length : Int) == cnt) = true := beq_iff_eq.2 hc
    have HC := Lib.hid hc
    clear hc
    go_upto_region 18 with fail
    refine start_ (n := 18) (S := fun w' => w'.heap[w.heap.size]? = some (.cells (arrV u) 110 (0, 0)) ∧ w'.heap[w.heap.size + 1]? = some (.map (mapOf met).toArray met.length)) (ds := [16]) #[false, false, false, false, false, false, false, false, false, false, false, false, false, false, false, false, false, false] (by kernel_rfl) rfl rfl ⟨u0, m0⟩ (fun hHeld => ?_)
    refine pure_ (i := 1) (N := some 115) (v := ?_) (a' := ?_) #[false, true, false, false, false, false, false, false, false, false, false, false, false, false, false, false, false, false] rfl rfl (by kernel_rfl) (fun _ _ _ h => h) (Or.inl ⟨by rfl, ?_⟩) ?_ ?_
    rotate_left
    ·
     intro w'
     go_simp
     with_reducible rfl
    rotate_left
    ·
     simp only [Act.put, List.setIfInBounds_toArray, List.set_cons_zero, List.set_cons_succ, i64_w, i32_w]
     rfl
    refine pure_ (i := 2) (N := some 116) (v := ?_) (a' := ?_) #[false, true, true, false, false, false, false, false, false, false, false, false, false, false, false, false, false, false] rfl rfl (by kernel_rfl) (fun _ _ _ h => h) (Or.inl ⟨by rfl, ?_⟩) ?_ ?_
    rotate_left
    ·
     intro w'
     go_simp
     with_reducible rfl
    rotate_left
    ·
     simp only [Act.put, List.setIfInBounds_toArray, List.set_cons_zero, List.set_cons_succ, i64_w, i32_w]
     rfl
    refine pure_ (i := 3) (N := some 117) (v := ?_) (a' := ?_) #[false, true, true, true, false, false, false, false, false, false, false, false, false, false, false, false, false, false] rfl rfl (by kernel_rfl) (fun _ _ _ h => h) (Or.inl ⟨by rfl, ?_⟩) ?_ ?_
    rotate_left
    ·
     intro w'
     go_simp
     with_reducible rfl
    rotate_left
    ·
     simp only [Act.put, List.setIfInBounds_toArray, List.set_cons_zero, List.set_cons_succ, i64_w, i32_w]
     rfl
    refine take_ (i := 0) (N := some 114) (v := .agg (arrV u)) (a' := ?_) #[true, true, true, true, false, false, false, false, false, false, false, false, false, false, false, false, false, false] rfl rfl (by kernel_rfl) (fun _ _ _ h => h) (Or.inl ⟨by rfl, ?_⟩) hHeld ?_ ?_
    ·
     rintro w' ⟨s0, s1⟩
     exact load_exec (t := 110) (p := .tmp 4) (ad := ⟨w.heap.size, 0, none⟩) rfl rfl (HLD.out _ s0)
    rotate_left
    ·
     simp only [Act.put, List.setIfInBounds_toArray, List.set_cons_zero, List.set_cons_succ, i64_w, i32_w]
     rfl
    refine one_ (i := 4) (N := some 118) #[true, true, true, true, true, false, false, false, false, false, false, false, false, false, false, false, false, false] rfl rfl (by kernel_rfl) (by decide) (fun K hK => ?_)
    refine goes_ Try.func96 (by kernel_rfl) rfl #[.int .i64 n] (by rfl) rfl rfl (by simp only [List.map_toArray, List.map_cons, List.map_nil]; rfl) ?_
    with_reducible refine (league_count.calls n cnt _ HCN.out).mono ?_
    rintro e w4 ⟨rfl, hd4⟩
    refine ⟨_, rfl, ?_⟩
    have hb4 := hd4.below
    have HB4 := Aside0.mk hb4
    have q1 := blk_below hHeld.1 hb4
    have q2 := blk_below hHeld.2 hb4
    clear hb4 hd4
    refine hK.out _ _ ⟨q1, q2⟩ (fun hHeld => ?_)
    clear hK K
    refine norm_ (a' := ?_) ?_ ?_
    rotate_left
    ·
     show Act.put _ (some 118) _ = _
     simp only [Act.put, List.setIfInBounds_toArray, List.set_cons_zero, List.set_cons_succ, i64_w, i32_w]
     rfl
    refine pure_ (i := 5) (N := some 119) (v := ?_) (a' := ?_) #[true, true, true, true, true, true, false, false, false, false, false, false, false, false, false, false, false, false] rfl rfl (by kernel_rfl) (fun _ _ _ h => h) (Or.inl ⟨by rfl, ?_⟩) ?_ ?_
    rotate_left
    ·
     intro w'
     go_simp
     with_reducible rfl
    rotate_left
    ·
     simp only [Act.put, List.setIfInBounds_toArray, List.set_cons_zero, List.set_cons_succ, i64_w, i32_w]
     rfl
    refine pure_ (i := 6) (N := some 120) (v := ?_) (a' := ?_) #[true, true, true, true, true, true, true, false, false, false, false, false, false, false, false, false, false, false] rfl rfl (by kernel_rfl) (fun _ _ _ h => h) (Or.inl ⟨by rfl, ?_⟩) ?_ ?_
    rotate_left
    ·
     intro w'
     go_simp
     with_reducible rfl
    rotate_left
    ·
     simp only [Act.put, List.setIfInBounds_toArray, List.set_cons_zero, List.set_cons_succ, i64_w, i32_w]
     rfl
    refine pure_ (i := 7) (N := some 121) (v := ?_) (a' := ?_) #[true, true, true, true, true, true, true, true, false, false, false, false, false, false, false, false, false, false] rfl rfl (by kernel_rfl) (fun _ _ _ h => h) (Or.inl ⟨by rfl, ?_⟩) ?_ ?_
    rotate_left
    ·
     intro w'
     go_simp
     with_reducible rfl
    rotate_left
    ·
     simp only [Act.put, List.setIfInBounds_toArray, List.set_cons_zero, List.set_cons_succ, i64_w, i32_w]
     rfl
    refine pure_ (i := 9) (N := some 123) (v := ?_) (a' := ?_) #[true, true, true, true, true, true, true, true, false, true, false, false, false, false, false, false, false, false] rfl rfl (by kernel_rfl) (fun _ _ _ h => h) (Or.inl ⟨by rfl, ?_⟩) ?_ ?_
    rotate_left
    ·
     intro w'
     go_simp
     with_reducible rfl
    rotate_left
    ·
     simp only [Act.put, List.setIfInBounds_toArray, List.set_cons_zero, List.set_cons_succ, i64_w, i32_w]
     rfl
    refine pure_ (i := 10) (N := some 124) (v := ?_) (a' := ?_) #[true, true, true, true, true, true, true, true, false, true, true, false, false, false, false, false, false, false] rfl rfl (by kernel_rfl) (fun _ _ _ h => h) (Or.inl ⟨by rfl, ?_⟩) ?_ ?_
    rotate_left
    ·
     intro w'
     go_simp
     with_reducible rfl
    rotate_left
    ·
     simp only [Act.put, List.setIfInBounds_toArray, List.set_cons_zero, List.set_cons_succ, i64_w, i32_w]
     rfl
    refine pure_ (i := 11) (N := some 125) (v := ?_) (a' := ?_) #[true, true, true, true, true, true, true, true, false, true, true, true, false, false, false, false, false, false] rfl rfl (by kernel_rfl) (fun _ _ _ h => h) (Or.inl ⟨by rfl, ?_⟩) ?_ ?_
    rotate_left
    ·
     intro w'
     go_simp
     with_reducible rfl
    rotate_left
    ·
     simp only [Act.put, List.setIfInBounds_toArray, List.set_cons_zero, List.set_cons_succ, i64_w, i32_w]
     rfl
    refine pure_ (i := 12) (N := some 126) (v := ?_) (a' := ?_) #[true, true, true, true, true, true, true, true, false, true, true, true, true, false, false, false, false, false] rfl rfl (by kernel_rfl) (fun _ _ _ h => h) (Or.inl ⟨by rfl, ?_⟩) ?_ ?_
    rotate_left
    ·
     intro w'
     go_simp
     with_reducible rfl
    rotate_left
    ·
     simp only [Act.put, List.setIfInBounds_toArray, List.set_cons_zero, List.set_cons_succ, i64_w, i32_w]
     rfl
    refine pure_ (i := 13) (N := some 127) (v := ?_) (a' := ?_) #[true, true, true, true, true, true, true, true, false, true, true, true, true, true, false, false, false, false] rfl rfl (by kernel_rfl) (fun _ _ _ h => h) (Or.inl ⟨by rfl, ?_⟩) ?_ ?_
    rotate_left
    ·
     intro w'
     go_simp
     with_reducible rfl
    rotate_left
    ·
     simp only [Act.put, List.setIfInBounds_toArray, List.set_cons_zero, List.set_cons_succ, i64_w, i32_w]
     rfl
    refine one_ (i := 8) (N := some 122) #[true, true, true, true, true, true, true, true, true, true, true, true, true, true, false, false, false, false] rfl rfl (by kernel_rfl) (by decide) (fun K hK => ?_)
    refine value_ (w1 := w4) (v := .int .i64 met.length) (by rfl) rfl (len_exec (p := .tmp 121) (b := w.heap.size + 1) rfl rfl hHeld.2 (by simp [mapOf])) ?_
    refine hK.out _ _ ⟨hHeld.1, hHeld.2⟩ (fun hHeld => ?_)
    clear hK K
    refine norm_ (a' := ?_) ?_ ?_
    rotate_left
    ·
     show Act.put _ (some 122) _ = _
     simp only [Act.put, List.setIfInBounds_toArray, List.set_cons_zero, List.set_cons_succ, i64_w, i32_w]
     rfl
    refine pure_ (i := 14) (N := some 128) (v := ?_) (a' := ?_) #[true, true, true, true, true, true, true, true, true, true, true, true, true, true, true, false, false, false] rfl rfl (by kernel_rfl) (fun _ _ _ h => h) (Or.inl ⟨by rfl, ?_⟩) ?_ ?_
    rotate_left
    ·
     intro w'
     go_simp
     with_reducible rfl
    rotate_left
    ·
     simp only [Act.put, List.setIfInBounds_toArray, List.set_cons_zero, List.set_cons_succ, i64_w, i32_w]
     rfl
    refine pure_ (i := 15) (N := some 129) (v := ?_) (a' := ?_) #[true, true, true, true, true, true, true, true, true, true, true, true, true, true, true, true, false, false] rfl rfl (by kernel_rfl) (fun _ _ _ h => h) (Or.inl ⟨by rfl, ?_⟩) ?_ ?_
    rotate_left
    ·
     intro w'
     go_simp
     with_reducible rfl
    rotate_left
    ·
     simp only [Act.put, List.setIfInBounds_toArray, List.set_cons_zero, List.set_cons_succ, i64_w, i32_w]
     rfl
    refine last_ (i := 16) (N := none) #[true, true, true, true, true, true, true, true, true, true, true, true, true, true, true, true, true, false] rfl rfl (by kernel_rfl) (by decide) (fun K hK => ?_)
    refine skip_ (w1 := w4.setRow w.heap.size (arrV u)) (by rfl) rfl (store_exec (t := 110) (p := .tmp 4) (ad := ⟨w.heap.size, 0, none⟩) (val := .agg (arrV u)) rfl rfl rfl (run_storeVar_row (P := Try.prog) w4 w.heap.size 110 110 (arrV u) (arrV u) hHeld.1 (by rw [show (arrV u).size = 18 from by simp [arrV, hul.out]]; rfl) rfl (by simp [arrV, Value.oneCell']))) ?_
    refine hK.out _ _ ?_
    clear hK K
    refine pure_ (i := 17) (N := some 5) (v := ?_) (a' := ?_) #[true, true, true, true, true, true, true, true, true, true, true, true, true, true, true, true, true, true] rfl rfl (by kernel_rfl) (fun _ _ _ h => h) (Or.inl ⟨by rfl, ?_⟩) ?_ ?_
    rotate_left
    ·
     intro w'
     go_simp
     with_reducible rfl
    rotate_left
    ·
     simp only [Act.put, List.setIfInBounds_toArray, List.set_cons_zero, List.set_cons_succ, i64_w, i32_w]
     rfl
    refine done_ (by kernel_rfl) ?_
    have hcv : decide ((met.length : Int) = Int.tdiv (n * (n - 1)) 2) = ((met.length : Int) == wrap64 (Int.tdiv (wrap64 (n * wrap64 (n - 1))) 2)) := by
     rw [show wrap64 (Int.tdiv (wrap64 (n * wrap64 (n - 1))) 2) = Int.tdiv (n * (n - 1)) 2 from by (have : n = 2 ∨ n = 3 ∨ n = 4 ∨ n = 5 ∨ n = 6 := by omega); rcases this with rfl | rfl | rfl | rfl | rfl <;> (unfold wrap64; decide)]
     rfl
    have HF : Hid (rightF n h s = (u, ((met.length : Int) == wrap64 (Int.tdiv (wrap64 (n * wrap64 (n - 1))) 2)))) := by
     show _ = _
     rw [HRT.out, decide_eq_true HC.out, Bool.true_and, hcv]
    clear hcv
    have HBF : Aside0 (Below w.heap.size w w4) := ⟨(below_drew1 hB.out).trans (HB4.out.mono (below_drew1 hB.out).size)⟩
    have hA := hHeld.1
    have HA := Aside0.mk hA
    clear hA
    go_wp2
    exact bodyPost_ret (res66 (setRow_arr HA.out) hul.out rfl rfl) rfl ⟨by rw [HF.out], setRow_below HBF.out _ (Nat.le_refl _) _⟩
   ·
    have b1 : ((s.length : Int) == cnt) = false := beq_eq_false_iff_ne.2 hc
    have HC := Lib.hid hc
    clear hc
    go_upto_region 18 with fail
    refine start_ (n := 18) (S := fun w' => w'.heap[w.heap.size]? = some (.cells (arrV u) 110 (0, 0)) ∧ w'.heap[w.heap.size + 1]? = some (.map (mapOf met).toArray met.length)) (ds := [16]) #[false, false, false, false, false, false, false, false, false, false, false, false, false, false, false, false, false, false] (by kernel_rfl) rfl rfl ⟨u0, m0⟩ (fun hHeld => ?_)
    refine pure_ (i := 1) (N := some 115) (v := ?_) (a' := ?_) #[false, true, false, false, false, false, false, false, false, false, false, false, false, false, false, false, false, false] rfl rfl (by kernel_rfl) (fun _ _ _ h => h) (Or.inl ⟨by rfl, ?_⟩) ?_ ?_
    rotate_left
    ·
     intro w'
     go_simp
     with_reducible rfl
    rotate_left
    ·
     simp only [Act.put, List.setIfInBounds_toArray, List.set_cons_zero, List.set_cons_succ, i64_w, i32_w]
     rfl
    refine pure_ (i := 2) (N := some 116) (v := ?_) (a' := ?_) #[false, true, true, false, false, false, false, false, false, false, false, false, false, false, false, false, false, false] rfl rfl (by kernel_rfl) (fun _ _ _ h => h) (Or.inl ⟨by rfl, ?_⟩) ?_ ?_
    rotate_left
    ·
     intro w'
     go_simp
     with_reducible rfl
    rotate_left
    ·
     simp only [Act.put, List.setIfInBounds_toArray, List.set_cons_zero, List.set_cons_succ, i64_w, i32_w]
     rfl
    refine pure_ (i := 3) (N := some 117) (v := ?_) (a' := ?_) #[false, true, true, true, false, false, false, false, false, false, false, false, false, false, false, false, false, false] rfl rfl (by kernel_rfl) (fun _ _ _ h => h) (Or.inl ⟨by rfl, ?_⟩) ?_ ?_
    rotate_left
    ·
     intro w'
     go_simp
     with_reducible rfl
    rotate_left
    ·
     simp only [Act.put, List.setIfInBounds_toArray, List.set_cons_zero, List.set_cons_succ, i64_w, i32_w]
     rfl
    refine take_ (i := 0) (N := some 114) (v := .agg (arrV u)) (a' := ?_) #[true, true, true, true, false, false, false, false, false, false, false, false, false, false, false, false, false, false] rfl rfl (by kernel_rfl) (fun _ _ _ h => h) (Or.inl ⟨by rfl, ?_⟩) hHeld ?_ ?_
    ·
     rintro w' ⟨s0, s1⟩
     exact load_exec (t := 110) (p := .tmp 4) (ad := ⟨w.heap.size, 0, none⟩) rfl rfl (HLD.out _ s0)
    rotate_left
    ·
     simp only [Act.put, List.setIfInBounds_toArray, List.set_cons_zero, List.set_cons_succ, i64_w, i32_w]
     rfl
    refine one_ (i := 4) (N := some 118) #[true, true, true, true, true, false, false, false, false, false, false, false, false, false, false, false, false, false] rfl rfl (by kernel_rfl) (by decide) (fun K hK => ?_)
    refine goes_ Try.func96 (by kernel_rfl) rfl #[.int .i64 n] (by rfl) rfl rfl (by simp only [List.map_toArray, List.map_cons, List.map_nil]; rfl) ?_
    with_reducible refine (league_count.calls n cnt _ HCN.out).mono ?_
    rintro e w4 ⟨rfl, hd4⟩
    refine ⟨_, rfl, ?_⟩
    have hb4 := hd4.below
    have HB4 := Aside0.mk hb4
    have q1 := blk_below hHeld.1 hb4
    have q2 := blk_below hHeld.2 hb4
    clear hb4 hd4
    refine hK.out _ _ ⟨q1, q2⟩ (fun hHeld => ?_)
    clear hK K
    refine norm_ (a' := ?_) ?_ ?_
    rotate_left
    ·
     show Act.put _ (some 118) _ = _
     simp only [Act.put, List.setIfInBounds_toArray, List.set_cons_zero, List.set_cons_succ, i64_w, i32_w]
     rfl
    refine pure_ (i := 5) (N := some 119) (v := ?_) (a' := ?_) #[true, true, true, true, true, true, false, false, false, false, false, false, false, false, false, false, false, false] rfl rfl (by kernel_rfl) (fun _ _ _ h => h) (Or.inl ⟨by rfl, ?_⟩) ?_ ?_
    rotate_left
    ·
     intro w'
     go_simp
     with_reducible rfl
    rotate_left
    ·
     simp only [Act.put, List.setIfInBounds_toArray, List.set_cons_zero, List.set_cons_succ, i64_w, i32_w]
     rfl
    refine pure_ (i := 6) (N := some 120) (v := ?_) (a' := ?_) #[true, true, true, true, true, true, true, false, false, false, false, false, false, false, false, false, false, false] rfl rfl (by kernel_rfl) (fun _ _ _ h => h) (Or.inl ⟨by rfl, ?_⟩) ?_ ?_
    rotate_left
    ·
     intro w'
     go_simp
     with_reducible rfl
    rotate_left
    ·
     simp only [Act.put, List.setIfInBounds_toArray, List.set_cons_zero, List.set_cons_succ, i64_w, i32_w]
     rfl
    refine pure_ (i := 7) (N := some 121) (v := undef) (a' := ?_) #[true, true, true, true, true, true, true, true, false, false, false, false, false, false, false, false, false, false] rfl rfl (by kernel_rfl) (fun _ _ _ h => h) (Or.inr ⟨by rfl, rfl⟩) ?_ ?_
    rotate_left
    ·
     simp only [Act.put, List.setIfInBounds_toArray, List.set_cons_zero, List.set_cons_succ, i64_w, i32_w]
     rfl
    refine pure_ (i := 8) (N := some 122) (v := undef) (a' := ?_) #[true, true, true, true, true, true, true, true, true, false, false, false, false, false, false, false, false, false] rfl rfl (by kernel_rfl) (fun _ _ _ h => h) (Or.inr ⟨by rfl, rfl⟩) ?_ ?_
    rotate_left
    ·
     simp only [Act.put, List.setIfInBounds_toArray, List.set_cons_zero, List.set_cons_succ, i64_w, i32_w]
     rfl
    refine pure_ (i := 9) (N := some 123) (v := undef) (a' := ?_) #[true, true, true, true, true, true, true, true, true, true, false, false, false, false, false, false, false, false] rfl rfl (by kernel_rfl) (fun _ _ _ h => h) (Or.inr ⟨by rfl, rfl⟩) ?_ ?_
    rotate_left
    ·
     simp only [Act.put, List.setIfInBounds_toArray, List.set_cons_zero, List.set_cons_succ, i64_w, i32_w]
     rfl
    refine pure_ (i := 10) (N := some 124) (v := undef) (a' := ?_) #[true, true, true, true, true, true, true, true, true, true, true, false, false, false, false, false, false, false] rfl rfl (by kernel_rfl) (fun _ _ _ h => h) (Or.inr ⟨by rfl, rfl⟩) ?_ ?_
    rotate_left
    ·
     simp only [Act.put, List.setIfInBounds_toArray, List.set_cons_zero, List.set_cons_succ, i64_w, i32_w]
     rfl
    refine pure_ (i := 11) (N := some 125) (v := undef) (a' := ?_) #[true, true, true, true, true, true, true, true, true, true, true, true, false, false, false, false, false, false] rfl rfl (by kernel_rfl) (fun _ _ _ h => h) (Or.inr ⟨by rfl, rfl⟩) ?_ ?_
    rotate_left
    ·
     simp only [Act.put, List.setIfInBounds_toArray, List.set_cons_zero, List.set_cons_succ, i64_w, i32_w]
     rfl
    refine pure_ (i := 12) (N := some 126) (v := undef) (a' := ?_) #[true, true, true, true, true, true, true, true, true, true, true, true, true, false, false, false, false, false] rfl rfl (by kernel_rfl) (fun _ _ _ h => h) (Or.inr ⟨by rfl, rfl⟩) ?_ ?_
    rotate_left
    ·
     simp only [Act.put, List.setIfInBounds_toArray, List.set_cons_zero, List.set_cons_succ, i64_w, i32_w]
     rfl
    refine pure_ (i := 13) (N := some 127) (v := undef) (a' := ?_) #[true, true, true, true, true, true, true, true, true, true, true, true, true, true, false, false, false, false] rfl rfl (by kernel_rfl) (fun _ _ _ h => h) (Or.inr ⟨by rfl, rfl⟩) ?_ ?_
    rotate_left
    ·
     simp only [Act.put, List.setIfInBounds_toArray, List.set_cons_zero, List.set_cons_succ, i64_w, i32_w]
     rfl
    refine pure_ (i := 14) (N := some 128) (v := undef) (a' := ?_) #[true, true, true, true, true, true, true, true, true, true, true, true, true, true, true, false, false, false] rfl rfl (by kernel_rfl) (fun _ _ _ h => h) (Or.inr ⟨by rfl, rfl⟩) ?_ ?_
    rotate_left
    ·
     simp only [Act.put, List.setIfInBounds_toArray, List.set_cons_zero, List.set_cons_succ, i64_w, i32_w]
     rfl
    refine pure_ (i := 15) (N := some 129) (v := ?_) (a' := ?_) #[true, true, true, true, true, true, true, true, true, true, true, true, true, true, true, true, false, false] rfl rfl (by kernel_rfl) (fun _ _ _ h => h) (Or.inl ⟨by rfl, ?_⟩) ?_ ?_
    rotate_left
    ·
     intro w'
     go_simp
     with_reducible rfl
    rotate_left
    ·
     simp only [Act.put, List.setIfInBounds_toArray, List.set_cons_zero, List.set_cons_succ, i64_w, i32_w]
     rfl
    refine last_ (i := 16) (N := none) #[true, true, true, true, true, true, true, true, true, true, true, true, true, true, true, true, true, false] rfl rfl (by kernel_rfl) (by decide) (fun K hK => ?_)
    refine skip_ (w1 := w4.setRow w.heap.size (arrV u)) (by rfl) rfl (store_exec (t := 110) (p := .tmp 4) (ad := ⟨w.heap.size, 0, none⟩) (val := .agg (arrV u)) rfl rfl rfl (run_storeVar_row (P := Try.prog) w4 w.heap.size 110 110 (arrV u) (arrV u) hHeld.1 (by rw [show (arrV u).size = 18 from by simp [arrV, hul.out]]; rfl) rfl (by simp [arrV, Value.oneCell']))) ?_
    refine hK.out _ _ ?_
    clear hK K
    refine pure_ (i := 17) (N := some 5) (v := ?_) (a' := ?_) #[true, true, true, true, true, true, true, true, true, true, true, true, true, true, true, true, true, true] rfl rfl (by kernel_rfl) (fun _ _ _ h => h) (Or.inl ⟨by rfl, ?_⟩) ?_ ?_
    rotate_left
    ·
     intro w'
     go_simp
     with_reducible rfl
    rotate_left
    ·
     simp only [Act.put, List.setIfInBounds_toArray, List.set_cons_zero, List.set_cons_succ, i64_w, i32_w]
     rfl
    refine done_ (by kernel_rfl) ?_
    have HF : Hid (rightF n h s = (u, false)) := by
     show _ = _
     rw [HRT.out, decide_eq_false HC.out, Bool.false_and]
    have HBF : Aside0 (Below w.heap.size w w4) := ⟨(below_drew1 hB.out).trans (HB4.out.mono (below_drew1 hB.out).size)⟩
    have hA := hHeld.1
    have HA := Aside0.mk hA
    clear hA
    go_wp2
    exact bodyPost_ret (res66 (setRow_arr HA.out) hul.out rfl rfl) rfl ⟨by rw [HF.out], setRow_below HBF.out _ (Nat.le_refl _) _⟩
end Go.Proofs.Ytmnamkcjldaoeaa.PAll
namespace Go.Proofs.Ytmnamkcjldaoeaa.PAll
open Go.RowKit Go.Proofs.YtmnamkcjldaoeaaW.PrintWords Go.Proofs.YtmnamkcjldaoeaaW.PrintLast Go.Proofs.YtmnamkcjldaoeaaW.PrintMore
set_option linter.unusedVariables false
set_option linter.unusedSimpArgs false
theorem useAt_len (u : List Int) (a l d : Int) : (useAt u a l d).length = u.length := by simp [useAt]
theorem roundR_len (n : Int) (h : Nat) : ∀ (ms : List S57) (met : List (Int × Int)) (b t : List Bool) (u : List Int) (r : List (Int × Int) × List Int), roundR n h ms met b t u = some r → r.2.length = u.length
 | [], met, b, t, u, r, h0 => by
  unfold roundR at h0
  obtain rfl := Option.some.inj h0
  rfl
 | m :: ms, met, b, t, u, r, h0 => by
  unfold roundR at h0
  split at h0
  ·
   exact absurd h0 (by simp)
  ·
   exact (roundR_len n h ms _ _ _ _ r h0).trans (by simp [useM, useAt_len])
theorem allR_len (n : Int) (h : Nat) : ∀ (ls : List (List S57)) (met : List (Int × Int)) (u : List Int) (r : List (Int × Int) × List Int), allR n h ls met u = some r → r.2.length = u.length
 | [], met, u, r, h0 => by
  unfold allR at h0
  obtain rfl := Option.some.inj h0
  rfl
 | l :: ls, met, u, r, h0 => by
  unfold allR at h0
  obtain ⟨p, h1, h2⟩ := Option.bind_eq_some_iff.1 h0
  exact (allR_len n h ls _ _ r h2).trans (roundR_len n h l _ _ _ _ p h1)
theorem rightF_len (n : Int) (h : Nat) (s : List (List S57)) : (rightF n h s).1.length = 18 := by
 unfold rightF
 split
 ·
  next hs =>
  obtain ⟨r, hr⟩ := Option.isSome_iff_exists.1 hs
  rw [hr]
  exact (allR_len n h s _ _ r hr).trans (by simp [zeros18])
 ·
  simp [zeros18]
def league_Uneven.f (a0 : Int) (l1 : List (List (S57))) : Option (Int × Int) :=
 some (if 2 ≤ a0 ∧ a0 ≤ 6 then (if (rightF a0 (hallsN a0) l1).2 = true then (unevenTo (rightF a0 (hallsN a0) l1).1 (hallsN a0) a0.toNat, 0) else (0, 10)) else (0, 2))
set_option maxRecDepth 100000 in
set_option maxHeartbeats 2000000 in
theorem league_Uneven.calls (a0 : Int) (A1 : Option Addr) (c1 : Nat) (l1 : List (List (S57))) (r1 : Int) (r2 : Int) (w : World) (hr1 : Kd.C (Kd.slice 57 k57) w A1 l1.length l1) (hc1 : l1.length ≤ c1) (h : league_Uneven.f a0 l1 = some (r1, r2)) :
  Calls Try.prog 30 #[.int .i64 a0, .slice A1 l1.length c1] w fun e w' => e = .returned (.tuple #[.int .i64 r1, .int .i64 r2]) ∧ Below w.heap.size w w' := by
 replace h := Option.some.inj h
 have HC := Aside0.mk hr1
 clear hr1
 by_cases hn : 2 ≤ a0 ∧ a0 ≤ 6
 ·
  rw [if_pos hn] at h
  obtain ⟨n2, n6⟩ := hn
  have ht : league_teams.f a0 = some true := by
   unfold league_teams.f league_within.f
   have : a0 = 2 ∨ a0 = 3 ∨ a0 = 4 ∨ a0 = 5 ∨ a0 = 6 := by omega
   rcases this with rfl | rfl | rfl | rfl | rfl <;> rfl
  obtain ⟨hh, h1, h3⟩ := halls_eq a0 n2 n6
  have hlen := rightF_len a0 (hallsN a0) l1
  have HT := Lib.hid ht
  have HRC := Lib.hid (right_calls a0 (hallsN a0) hh h1 h3 n2 n6 A1 c1 l1)
  have HUC := Lib.hid (uneven_calls a0 (hallsN a0) hh h1 h3 n2 n6)
  obtain ⟨⟨u, b⟩, hub⟩ : ∃ p, rightF a0 (hallsN a0) l1 = p := ⟨_, rfl⟩
  rw [hub] at h hlen HRC
  have HL := Lib.hid hlen
  have HLD : Hid (∀ (W : World) (g : Nat), ArrAt W g 110 u → (loadVar 110 ⟨g, 0, none⟩).run Try.prog W = .ok (.agg (arrV u)) W) := by
   intro W g hu
   refine run_loadVar_row W g 110 110 (arrV u) (0, 0) (.array 6 108) hu (by kernel_rfl) rfl ?_
   have : (arrV u).size = 18 := by simp [arrV, HL.out]
   rw [this]
   rfl
  have HST : Hid (∀ (W : World) (g : Nat) (old : List Int), old.length = 18 → ArrAt W g 110 old → (storeVar 110 ⟨g, 0, none⟩ (.agg (arrV u))).run Try.prog W = .ok () (W.setRow g (arrV u))) := by
   intro W g old ho hu
   exact run_storeVar_row W g 110 110 (arrV old) (arrV u) hu (by rw [show (arrV u).size = 18 from by simp [arrV, HL.out]]; rfl) (by simp [arrV, HL.out, ho]) (by simp [arrV, Value.oneCell'])
  have H := Lib.hid h
  clear hh hub hlen ht h
  cases b with
  | true =>
   have HRES : Hid ((unevenTo u (hallsN a0) a0.toNat, (0 : Int)) = (r1, r2)) := H.out
   clear H
   go_enter Try.func30, Try.ntmps30
   go_wp2_with (first
    | (go_at_call 50; (with_reducible refine (league_teams.calls a0 true _ HT.out).mono ?_); rintro e w1 ⟨rfl, hd1⟩; have hb1 := hd1.below; have HB1 := Aside0.mk hb1; clear hb1 hd1)
    | (go_at_call 66; (with_reducible refine (HRC.out _ ?hc).mono ?_); (case hc => exact Kd.C_below HC.out HB1.out); rintro e w2 ⟨rfl, hb2⟩; have HB2 := Aside0.mk hb2; clear hb2)
    | ((with_reducible refine gate_store (t := 110) (p := 6) rfl ?_); refine store_event (t := 110) (p := 6) (v := ?vo) (w1 := (w2.alloc (.cells (arrV zeros18) 110)).setRow w2.heap.size (arrV u)) ?hg ?ho ?hn ?hr ?_; (case ho => rfl); (case hg => rfl); (case hn => rfl); (case hr => exact store_exec (t := 110) (p := .tmp 6) (ad := ⟨w2.heap.size, 0, none⟩) (val := .agg (arrV u)) rfl rfl rfl (HST.out _ _ zeros18 (by decide) (blk_new _ _))); intro w3 hw; have HU3 : Aside0 (ArrAt w3 w2.heap.size 110 u) := ⟨by rw [hw]; exact setRow_arr (blk_new _ _)⟩; have HB3 : Aside0 (Below w.heap.size w w3) := ⟨by rw [hw]; exact setRow_below (below_alloc (HB1.out.trans (HB2.out.mono HB1.out.size)) _) _ (Nat.le_trans HB1.out.size HB2.out.size) _⟩; clear hw)
    | ((with_reducible refine gate_dst (N := 19) rfl ?_); refine Kd.event_run (v := .agg (arrV u)) rfl (load_exec (t := 110) (p := .tmp 6) (ad := ⟨w2.heap.size, 0, none⟩) rfl rfl (HLD.out _ _ ?hu)) ?_; (case hu => first | exact HU3.out | exact blk_drew HU3.out))
    | (go_at_call 67; (with_reducible refine (HUC.out u HL.out _).mono ?_); rintro e w4 ⟨rfl, hb4⟩; have HB4 := Aside0.mk hb4; clear hb4))
   obtain ⟨rfl, rfl⟩ := Prod.mk.inj HRES.out
   go_ret2
   exact ⟨rfl, by first | exact HB3.out.trans (HB4.out.mono HB3.out.size) | exact (below_drew1 HB3.out).trans (HB4.out.mono (below_drew1 HB3.out).size)⟩
  | false =>
   have HRES : Hid (((0 : Int), (10 : Int)) = (r1, r2)) := H.out
   clear H
   go_enter Try.func30, Try.ntmps30
   go_wp2_with (first
    | (go_at_call 50; (with_reducible refine (league_teams.calls a0 true _ HT.out).mono ?_); rintro e w1 ⟨rfl, hd1⟩; have hb1 := hd1.below; have HB1 := Aside0.mk hb1; clear hb1 hd1)
    | (go_at_call 66; (with_reducible refine (HRC.out _ ?hc).mono ?_); (case hc => exact Kd.C_below HC.out HB1.out); rintro e w2 ⟨rfl, hb2⟩; have HB2 := Aside0.mk hb2; clear hb2)
    | ((with_reducible refine gate_store (t := 110) (p := 6) rfl ?_); refine store_event (t := 110) (p := 6) (v := ?vo) (w1 := (w2.alloc (.cells (arrV zeros18) 110)).setRow w2.heap.size (arrV u)) ?hg ?ho ?hn ?hr ?_; (case ho => rfl); (case hg => rfl); (case hn => rfl); (case hr => exact store_exec (t := 110) (p := .tmp 6) (ad := ⟨w2.heap.size, 0, none⟩) (val := .agg (arrV u)) rfl rfl rfl (HST.out _ _ zeros18 (by decide) (blk_new _ _))); intro w3 hw; have HB3 : Aside0 (Below w.heap.size w w3) := ⟨by rw [hw]; exact setRow_below (below_alloc (HB1.out.trans (HB2.out.mono HB1.out.size)) _) _ (Nat.le_trans HB1.out.size HB2.out.size) _⟩; clear hw))
   obtain ⟨rfl, rfl⟩ := Prod.mk.inj HRES.out
   go_ret2
   exact ⟨rfl, by first | exact HB3.out | exact below_drew1 HB3.out⟩
 ·
  rw [if_neg hn] at h
  have HRES := Lib.hid h
  clear h
  have ht : league_teams.f a0 = some false := by rw [teams_eq, show teamsB a0 = false from by unfold teamsB; simp; omega]
  have HT := Lib.hid ht
  clear ht
  go_enter Try.func30, Try.ntmps30
  go_wp2_with (go_at_call 50; (with_reducible refine (league_teams.calls a0 false _ HT.out).mono ?_); rintro e w1 ⟨rfl, hd1⟩; have hb1 := hd1.below; have HB1 := Aside0.mk hb1; clear hb1 hd1)
  obtain ⟨rfl, rfl⟩ := Prod.mk.inj HRES.out
  go_ret2
  exact ⟨rfl, HB1.out⟩
end Go.Proofs.Ytmnamkcjldaoeaa.PAll
namespace Go.Proofs.Ytmnamkcjldaoeaa.PAll
open Go.RowKit Go.Proofs.YtmnamkcjldaoeaaW.PrintWords Go.Proofs.YtmnamkcjldaoeaaW.PrintLast Go.Proofs.YtmnamkcjldaoeaaW.PrintMore
attribute [local go_sem] max2_int min2_int max_two min_two max_three min_three max_four min_four   -- for this text's walks alone
set_option linter.unusedVariables false
set_option linter.unusedSimpArgs false
def league_ProveSchedule.f (a0 : Int) (l1 : List (List (S57))) (a2 : Int) : Option (Bool) := (league_Uneven.f a0 l1).bind fun bt165 => (if bt165.2 = 0 then (some (decide (bt165.1 ≤ a2))) else (some false))
set_option maxHeartbeats 8000000 in
set_option maxRecDepth 100000 in
theorem league_ProveSchedule.calls (a0 : Int) (A1 : Option Addr) (c1 : Nat) (l1 : List (List (S57))) (a2 : Int) (r : Bool) (w : World) (hr1 : Kd.C (Kd.slice 57 k57) w A1 l1.length l1) (hc1 : l1.length ≤ c1) (h : league_ProveSchedule.f a0 l1 a2 = some r) :
  Calls Try.prog 31 #[.int .i64 a0, .slice A1 l1.length c1, .int .i64 a2] w fun e w' => e = .returned (.bool r) ∧ Below w.heap.size w w' := by
 have HR1 := Aside0.mk hr1
 have HC1 := Aside0.mk hc1
 clear hr1 hc1
 have HB := Aside0.mk (Below.refl w.heap.size w)
 have H : ((league_Uneven.f a0 l1).bind fun bt165 => (if bt165.2 = 0 then (some (decide (bt165.1 ≤ a2))) else (some false))) = some r := h
 clear h
 replace H := Option.bind_eq_some_iff.mp H
 obtain ⟨⟨t165, t166⟩, A40, H⟩ := H
 replace H : (if t166 = 0 then (some (decide (t165 ≤ a2))) else (some false)) = some r := H
 have A4 := Aside0.mk A40
 clear A40
 by_cases c5 : t166 = 0
 ·
  rw [if_pos c5] at H
  have c5b0 : (t166 == 0) = true := beq_iff_eq.mpr c5
  have c5b1 : (t166 != 0) = false := bne_eq_false_iff_eq.mpr c5
  clear c5
  obtain rfl := Option.some.inj H
  go_enter Try.func31, Try.ntmps31
  go_wp2_with (first | ((with_reducible refine gate_callee (f := 30) rfl ?_); refine goesL_ (some 12) rfl rfl Try.func30 (by kernel_rfl) rfl #[.int .i64 a0, .slice A1 l1.length c1] rfl (by (try simp only [List.map_toArray, List.map_cons, List.map_nil]); first | done | rfl | (simp only [List.length_drop, List.length_take]; rfl)) ?_; (with_reducible refine (league_Uneven.calls a0 _ _ l1 t165 t166 _ ?side1 ?side2 A4.out).mono ?_); (case side1 => repeat (first | exact HR1.out | (with_reducible refine Kd.C_alloc ?_ _) | (with_reducible refine Kd.C_drewN ?_ _) | (with_reducible refine Kd.C_drew ?_))); (case side2 => exact HC1.out); rintro e w6 ⟨rfl, hb⟩; refine ⟨_, rfl, ?_⟩; have n0_ := Aside0.mk (below_step (by repeat (first | (with_reducible first | exact HB.out | apply below_alloc | apply pw_below_drewN | apply below_drew1) | exact HB.out)) hb); clear HB; have HB := n0_; clear n0_; (try clear hb); (try clear hb2); (try clear hk); (try clear hi)))
  go_ret
  exact ⟨by first | rfl | (simp [errW_none, errW_some] <;> rfl) | (simp [*, errW_none, errW_some] <;> rfl), by repeat (first | (with_reducible first | exact HB.out | apply below_alloc | apply pw_below_drewN | apply below_drew1) | exact HB.out)⟩
 ·
  rw [if_neg c5] at H
  have c5b0 : (t166 == 0) = false := beq_eq_false_iff_ne.mpr c5
  have c5b1 : (t166 != 0) = true := bne_iff_ne.mpr c5
  obtain rfl := Option.some.inj H
  go_enter Try.func31, Try.ntmps31
  go_wp2_with (first | ((with_reducible refine gate_callee (f := 30) rfl ?_); refine goesL_ (some 12) rfl rfl Try.func30 (by kernel_rfl) rfl #[.int .i64 a0, .slice A1 l1.length c1] rfl (by (try simp only [List.map_toArray, List.map_cons, List.map_nil]); first | done | rfl | (simp only [List.length_drop, List.length_take]; rfl)) ?_; (with_reducible refine (league_Uneven.calls a0 _ _ l1 t165 t166 _ ?side1 ?side2 A4.out).mono ?_); (case side1 => repeat (first | exact HR1.out | (with_reducible refine Kd.C_alloc ?_ _) | (with_reducible refine Kd.C_drewN ?_ _) | (with_reducible refine Kd.C_drew ?_))); (case side2 => exact HC1.out); rintro e w7 ⟨rfl, hb⟩; refine ⟨_, rfl, ?_⟩; have n0_ := Aside0.mk (below_step (by repeat (first | (with_reducible first | exact HB.out | apply below_alloc | apply pw_below_drewN | apply below_drew1) | exact HB.out)) hb); clear HB; have HB := n0_; clear n0_; (try clear hb); (try clear hb2); (try clear hk); (try clear hi)))
  go_ret
  exact ⟨by first | rfl | (simp [errW_none, errW_some] <;> rfl) | (simp [*, errW_none, errW_some] <;> rfl), by repeat (first | (with_reducible first | exact HB.out | apply below_alloc | apply pw_below_drewN | apply below_drew1) | exact HB.out)⟩
end Go.Proofs.Ytmnamkcjldaoeaa.PAll
