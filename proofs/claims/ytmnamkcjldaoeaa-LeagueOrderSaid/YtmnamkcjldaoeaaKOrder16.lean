/- Parts of the proof of leagueOrder_holds, in order: HLay1, HBuild -/
import Derived.Test.YtmnamkcjldaoeaaKOrder3
import Derived.Test.YtmnamkcjldaoeaaKOrder5
import Derived.Test.YtmnamkcjldaoeaaKOrder12
import Derived.WalkMore
import Derived.StillTailTactics
namespace Go.Proofs.Ytmnamkcjldaoeaa.PAll
open Go.RowKit Go.Proofs.YtmnamkcjldaoeaaW.PrintWords Go.Proofs.YtmnamkcjldaoeaaW.PrintLast Go.Proofs.YtmnamkcjldaoeaaW.PrintMore
set_option linter.unusedVariables false
set_option linter.unusedSimpArgs false
abbrev GV (bl bu bn bv bg : Nat) : Value := .func (.func 97) #[] #[.pointer (some ⟨bl, 0, none⟩), .pointer (some ⟨bu, 0, none⟩), .pointer (some ⟨bn, 0, none⟩), .pointer (some ⟨bv, 0, none⟩), .pointer (some ⟨bg, 0, none⟩)]
section
variable {P : Program} {ops : Array Oper} {Q : Exit → Act → World → Prop}
theorem load_step {oi : Oper} {N : Option Tmp} {a : Act} {w : World} {v : Value} {K : Act → World → Prop} {t : TypeId} {p : Operand} {ad : Addr} (hw : Region.wanted oi (yielded ops a.tmps) = true) (hN : oi.dst = N) (hop : oi.op = .load t p) (hp : a.eval p = .pointer (some ad)) (hl : (loadVar t ad).run P w = .ok v w)
  (h : K (a.put N v) w) : if Region.wanted oi (yielded ops a.tmps) = true then Oper.wp P oi a w K Q else K (a.put N undef) w := by
 refine value_ hw hN ?_ h
 unfold execOp
 simp only [hop, hp, Instr.loadAt, Instr.sureAddr, Sem.run_bind, Sem.run_pure, Result.andThen_ok, hl]
end
structure LayW (w : World) (N base bl bu bn bv bg : Nat) (n un : Int) (v : Value) (L : List (List S57)) (u : List Int) : Prop where
 hS : Kd.S (Kd.slice 57 k57) 55 w base (fun k => k < N) v L
 hu : ArrAt w bu 110 u
 ul : u.length = 18
 hl : w.heap[bl]? = some (.cells #[v] 47 (0, 0))
 hn : w.heap[bn]? = some (.cells #[.int .i64 n] 3 (0, 0))
 hv : w.heap[bv]? = some (.cells #[.int .i64 un] 3 (0, 0))
 hg : w.heap[bg]? = some (.cells #[GV bl bu bn bv bg] 132 (0, 0))
structure LayN (N base bl bu bn bv bg : Nat) : Prop where
 hb : base ≤ N
 nl : N ≤ bl ∧ bl ≠ bu
 nu : N ≤ bu
 nn : N ≤ bn ∧ bn ≠ bu
 nv : N ≤ bv ∧ bv ≠ bu
 ng : N ≤ bg ∧ bg ≠ bu
section
variable {w w1 : World} {N base bl bu bn bv bg : Nat} {n un : Int} {v : Value} {L : List (List S57)} {u : List Int}
theorem LayW.below (h : LayW w N base bl bu bn bv bg n un v L u) (hb : Below w.heap.size w w1) : LayW w1 N base bl bu bn bv bg n un v L u :=
 ⟨Kd.S_below h.hS hb, h.hu.below hb, h.ul, blk_below h.hl hb, blk_below h.hn hb, blk_below h.hv hb, blk_below h.hg hb⟩
theorem LayW.grown {g : Nat} (h : LayW w N base bl bu bn bv bg n un v L u) (hg : w.grownBy w1 (some g)) (h0 : N ≤ g) (h1 : g ≠ bl) (h2 : g ≠ bu) (h3 : g ≠ bn) (h4 : g ≠ bv) (h5 : g ≠ bg) : LayW w1 N base bl bu bn bv bg n un v L u :=
 ⟨Kd.S_grown h.hS hg (fun k hk e => by injection e with e; omega), (hg.block bu (blk_lt h.hu) (fun e => h2 (by injection e with e; exact e.symm))).trans h.hu, h.ul, (hg.block bl (blk_lt h.hl) (fun e => h1 (by injection e with e; exact e.symm))).trans h.hl, (hg.block bn (blk_lt h.hn) (fun e => h3 (by injection e with e; exact e.symm))).trans h.hn, (hg.block bv (blk_lt h.hv) (fun e => h4 (by injection e with e; exact e.symm))).trans h.hv, (hg.block bg (blk_lt h.hg) (fun e => h5 (by injection e with e; exact e.symm))).trans h.hg⟩
theorem LayW.setU (hN : LayN N base bl bu bn bv bg) (h : LayW w N base bl bu bn bv bg n un v L u) (i : Nat) (x : Int) : LayW (w.setCell ⟨bu, i, none⟩ (.int .i64 x)) N base bl bu bn bv bg n un v L (u.set i x) :=
 ⟨Kd.S_far h.hS (fun k hk => by have := hN.nu; show k ≠ bu; omega) _, h.hu.set i x, by rw [List.length_set]; exact h.ul, (Below.heap_setCell w ⟨bu, i, none⟩ _ bl hN.nl.2).trans h.hl, (Below.heap_setCell w ⟨bu, i, none⟩ _ bn hN.nn.2).trans h.hn, (Below.heap_setCell w ⟨bu, i, none⟩ _ bv hN.nv.2).trans h.hv, (Below.heap_setCell w ⟨bu, i, none⟩ _ bg hN.ng.2).trans h.hg⟩
theorem LayW.setL (hN : LayN N base bl bu bn bv bg) (h : LayW w N base bl bu bn bv bg n un v L u) (g i : Nat) (x : Value) (hg : g < N) {L' : List (List S57)} (hS : Kd.S (Kd.slice 57 k57) 55 (w.setCell ⟨g, i, none⟩ x) base (fun k => k < N) v L') : LayW (w.setCell ⟨g, i, none⟩ x) N base bl bu bn bv bg n un v L' u :=
 ⟨hS, (Below.heap_setCell w ⟨g, i, none⟩ _ bu (by have := hN.nu; show bu ≠ g; omega)).trans h.hu, h.ul, (Below.heap_setCell w ⟨g, i, none⟩ _ bl (by have := hN.nl.1; show bl ≠ g; omega)).trans h.hl, (Below.heap_setCell w ⟨g, i, none⟩ _ bn (by have := hN.nn.1; show bn ≠ g; omega)).trans h.hn, (Below.heap_setCell w ⟨g, i, none⟩ _ bv (by have := hN.nv.1; show bv ≠ g; omega)).trans h.hv, (Below.heap_setCell w ⟨g, i, none⟩ _ bg (by have := hN.ng.1; show bg ≠ g; omega)).trans h.hg⟩
end
def TkAt (w : World) (N : Nat) (vt : Value) (tk : List Bool) : Prop := Kd.R Kd.bool 4 w N (fun _ => True) vt tk
def layPost (N base bl bu bn bv bg : Nat) (n un : Int) (v vt : Value) (res : Res) (w : World) (e : Ending) (w' : World) : Prop :=
 e = .returned (.bool res.1) ∧ LayW w' N base bl bu bn bv bg n un v res.2.1 res.2.2.1 ∧ TkAt w' N vt res.2.2.2 ∧ (∀ k, N ≤ k → k < w.heap.size → k ≠ bu → some k ≠ vt.ownBlock → w'.heap[k]? = w.heap[k]?) ∧ Below base w w' ∧ (∀ g, v.ownBlock = some g → w'.heap[g]? = w.heap[g]?)
theorem TkAt.same {w w' : World} {N : Nat} {vt : Value} {tk : List Bool} (h : TkAt w N vt tk) (hs : ∀ k, vt.ownBlock = some k → w'.heap[k]? = w.heap[k]?) : TkAt w' N vt tk := by
 refine Kd.R_of_own ?_ (fun _ _ => trivial)
 obtain ⟨hl, hv⟩ := Kd.own_of_R h
 rcases hv with hv | ⟨g, cap, cur, rfl, hbg, hg, rest⟩
 ·
  exact ⟨hl, .inl hv⟩
 ·
  exact ⟨hl, .inr ⟨g, cap, cur, rfl, hbg, (hs g (by simp [Value.ownBlock])).trans hg, rest⟩⟩
theorem TkAt.ne {w : World} {N : Nat} {vt : Value} {tk : List Bool} (h : TkAt w N vt tk) {b t : Nat} {cells : Array Value} (hb : w.heap[b]? = some (.cells cells t (0, 0))) (ht : 4 ≠ t) : some b ≠ vt.ownBlock := Kd.R_ne h hb ht
theorem grownBy_at (w : World) (b i : Nat) (v : Value) : w.grownBy (w.setCell ⟨b, i, none⟩ v) (some b) :=
 ⟨rfl, rfl, rfl, by simp, fun k hk hne => Below.heap_setCell w ⟨b, i, none⟩ v k (fun e => hne (by rw [e]))⟩
theorem below_store {B : Nat} {w w1 : World} (h : Below B w w1) (b i : Nat) (hb : B ≤ b) (v : Value) : Below B w (w1.setCell ⟨b, i, none⟩ v) := h.setCell hb v
theorem layPost_up {N base bl bu bn bv bg : Nat} {n un : Int} {v vt vt1 : Value} {res : Res} {w w5 w' : World} {e : Ending} {tk : List Bool} (hb : Below w.heap.size w w5) (hbase : base ≤ w.heap.size) (hfr : ∃ b, vt1.ownBlock = some b ∧ w.heap.size ≤ b) (ht : TkAt w N vt tk) (hu : ∃ u, ArrAt w bu 110 u) (hv : ∀ g, v.ownBlock = some g → g < w.heap.size)
  (h : layPost N base bl bu bn bv bg n un v vt1 res w5 e w') : layPost N base bl bu bn bv bg n un v vt (res.1, res.2.1, res.2.2.1, tk) w e w' := by
 obtain ⟨h1, h2, h3, h4, h5, h6⟩ := h
 obtain ⟨b, hb1, hb2⟩ := hfr
 obtain ⟨u, hu⟩ := hu
 have hfrm : ∀ k, N ≤ k → k < w.heap.size → k ≠ bu → w'.heap[k]? = w.heap[k]? := fun k k1 k2 k3 =>
  (h4 k k1 (Nat.lt_of_lt_of_le k2 hb.size) k3 (by rw [hb1]; intro e; injection e with e; omega)).trans (hb.block k k2)
 refine ⟨h1, h2, ht.same (fun k hk => hfrm k (Kd.R_base ht k hk) (Kd.R_lt ht k hk) (fun e => by have := ht.ne hu (by decide); rw [hk, e] at this; exact this rfl)), fun k k1 k2 k3 _ => hfrm k k1 k2 k3, (hb.mono hbase).trans h5, fun g hg => (h6 g hg).trans (hb.block g (hv g hg))⟩
theorem grown_none {W w1 : World} (h : W.grownBy w1 none) : Below W.heap.size W w1 := ⟨h.os, h.tape, h.output, h.size, fun i hi => h.block i hi (by simp)⟩
theorem info4 : (Try.prog.info? 4).map (fun i => (i.zero, i.size, i.bytes)) = some (some (.bool false), 1, 1) := by kernel_rfl
theorem giveF_succ (n un : Int) (h k r a : Nat) (tk : List Bool) (L : List (List S57)) (u : List Int) : giveF n un h (k + 1) r a tk L u = if r = L.length then (decide (unevenTo u h n.toNat ≤ un), L, u, tk)
  else if a = (L.getD r []).length then
   (if mostF n h un u = true then ((giveF n un h k (r + 1) 0 (List.replicate h false) L u).1, (giveF n un h k (r + 1) 0 (List.replicate h false) L u).2.1, (giveF n un h k (r + 1) 0 (List.replicate h false) L u).2.2.1, tk) else (false, L, u, tk))
  else laneF (giveF n un h k r (a + 1)) r a h 0 tk L u := rfl
def needF (sh : List (List (Int × Int))) (r a : Nat) : Nat := ((sh.drop r).map (fun l => l.length + 1)).sum + 1 - a
theorem shape_get {L : List (List S57)} {sh : List (List (Int × Int))} (h : shape L = sh) (r : Nat) (hr : r < L.length) : ∃ l, sh[r]? = some l ∧ l.length = (L.getD r []).length := by
 subst h
 refine ⟨(L[r]).map (fun m => (m.f0, m.f1)), ?_, ?_⟩
 ·
  simp [shape, hr]
 ·
  rw [List.length_map, List.getD_eq_getElem?_getD, List.getElem?_eq_getElem hr, Option.getD_some]
theorem need_next {L : List (List S57)} {sh : List (List (Int × Int))} (h : shape L = sh) (r : Nat) (hr : r < L.length) : needF sh r (L.getD r []).length = needF sh (r + 1) 0 + 1 := by
 obtain ⟨l, h1, h2⟩ := shape_get h r hr
 obtain ⟨h3, h4⟩ := List.getElem?_eq_some_iff.1 h1
 unfold needF
 rw [List.drop_eq_getElem_cons h3, h4, ← h2]
 simp only [List.map_cons, List.sum_cons]
 omega
theorem need_step {L : List (List S57)} {sh : List (List (Int × Int))} (h : shape L = sh) (r a : Nat) (hr : r < L.length) (ha : a < (L.getD r []).length) : needF sh r a = needF sh r (a + 1) + 1 := by
 obtain ⟨l, h1, h2⟩ := shape_get h r hr
 obtain ⟨h3, h4⟩ := List.getElem?_eq_some_iff.1 h1
 unfold needF
 rw [List.drop_eq_getElem_cons h3, h4]
 simp only [List.map_cons, List.sum_cons]
 omega
theorem need_pos {L : List (List S57)} {sh : List (List (Int × Int))} (h : shape L = sh) (r a : Nat) (hr : r ≤ L.length) (ha : r < L.length → a ≤ (L.getD r []).length) (hz : r = L.length → a = 0) : 1 ≤ needF sh r a := by
 by_cases hl : r < L.length
 ·
  obtain ⟨l, h1, h2⟩ := shape_get h r hl
  obtain ⟨h3, h4⟩ := List.getElem?_eq_some_iff.1 h1
  have := ha hl
  unfold needF
  rw [List.drop_eq_getElem_cons h3, h4]
  simp only [List.map_cons, List.sum_cons]
  omega
 ·
  have := hz (by omega)
  unfold needF
  omega
set_option maxRecDepth 100000 in
set_option maxHeartbeats 8000000 in
theorem give_calls (N base bl bu bn bv bg : Nat) (hN : LayN N base bl bu bn bv bg) (n un : Int) (h : Nat) (hh : wrap64 (Int.tdiv n 2) = h) (h1 : 1 ≤ h) (h3 : h ≤ 3) (n2 : 2 ≤ n) (n6 : n ≤ 6) (v : Value) (sh : List (List (Int × Int)))
  (hsz : sh.length ≤ 100 ∧ ∀ l ∈ sh, l.length ≤ 100) (hval : ∀ l ∈ sh, ∀ p ∈ l, 0 ≤ p.1 ∧ p.1 < 6 ∧ 0 ≤ p.2 ∧ p.2 < 6 ∧ p.1 ≠ p.2) (k : Nat) :
  ∀ (w : World) (vt : Value) (tk : List Bool) (L : List (List S57)) (u : List Int) (r a : Nat), LayW w N base bl bu bn bv bg n un v L u → TkAt w N vt tk → tk.length = h → shape L = sh → r ≤ L.length → a ≤ 100 → (r < L.length → a ≤ (L.getD r []).length) → (r = L.length → a = 0) → needF sh r a ≤ k →
  Calls Try.prog 97 #[.int .i64 r, .int .i64 a, vt, .pointer (some ⟨bl, 0, none⟩), .pointer (some ⟨bu, 0, none⟩), .pointer (some ⟨bn, 0, none⟩), .pointer (some ⟨bv, 0, none⟩), .pointer (some ⟨bg, 0, none⟩)] w (layPost N base bl bu bn bv bg n un v vt (giveF n un h k r a tk L u) w) := by
 have HH := Lib.hid hh
 have HN := Aside0.mk hN
 have HSZ := Lib.hid hsz
 have HVAL := Lib.hid hval
 have hld : ∀ (W : World) (u : List Int), ArrAt W bu 110 u → u.length = 18 → (loadVar 110 ⟨bu, 0, none⟩).run Try.prog W = .ok (.agg (arrV u)) W := by
  intro W u hu hl
  refine run_loadVar_row W bu 110 110 (arrV u) (0, 0) (.array 6 108) hu (by kernel_rfl) rfl ?_
  have : (arrV u).size = 18 := by simp [arrV, hl]
  rw [this]
  rfl
 have HLD := Lib.hid hld
 clear hh hN hsz hval hld
 induction k with
 | zero =>
  intro w vt tk L u r a hW hT htk hsh hr ha100 ha hz hk
  exfalso
  have := need_pos hsh r a hr ha hz
  omega
 | succ k ih =>
  intro w vt tk L u r a hW hT htk hsh hr ha100 ha hz hk
  have HIH := Lib.hid ih
  clear ih
  have HW := Aside0.mk hW
  have HT := Aside0.mk hT
  have HSH := Lib.hid hsh
  have HK := Lib.hid hk
  have HTK := Lib.hid htk
  have hlen : L.length ≤ 100 := by
   have := congrArg List.length hsh
   simp [shape] at this
   have := HSZ.out.1
   omega
  obtain ⟨Av, cv, rfl⟩ := Kd.S_slice hW.hS
  have l0 := blk_cell hW.hl 0
  have n0 := blk_cell hW.hn 0
  have v0 := blk_cell hW.hv 0
  have g0 := blk_cell hW.hg 0
  simp only [List.getElem?_toArray, List.getElem?_cons_zero] at l0 n0 v0 g0
  have HBS := Aside0.mk (show base ≤ w.heap.size from by have h1 := HN.out.hb; have h2 := HN.out.nu; have h3 := blk_lt hW.hu; omega)
  clear hW hT hsh hk htk
  by_cases hre : r = L.length
  ·
   obtain rfl := hz hre
   subst hre
   clear hz
   go_enter Try.func97, Try.ntmps97
   go_wp2
   go_step3
   go_upto_region 2 with fail
   refine start_ (n := 6) (S := fun w' => w'.heap[bu]? = some (.cells (arrV u) 110 (0, 0)) ∧ w'.cell? ⟨bn, 0, none⟩ = some (.int .i64 n) ∧ w'.cell? ⟨bv, 0, none⟩ = some (.int .i64 un)) (ds := []) #[false, false, false, false, false, false] (by kernel_rfl) rfl rfl ⟨HW.out.hu, n0, v0⟩ (fun hHeld => ?_)
   refine take_ (i := 1) (N := some 20) (v := ?_) (a' := ?_) #[false, true, false, false, false, false] rfl rfl (by kernel_rfl) (fun _ _ _ h => h) (Or.inl ⟨by rfl, ?_⟩) hHeld ?_ ?_
   rotate_left
   ·
    rintro w' ⟨s0, s1, s2⟩
    go_simp
    with_reducible rfl
   rotate_left
   ·
    simp only [Act.put, List.setIfInBounds_toArray, List.set_cons_zero, List.set_cons_succ, i64_w, i32_w]
    rfl
   refine take_ (i := 3) (N := some 22) (v := ?_) (a' := ?_) #[false, true, false, true, false, false] rfl rfl (by kernel_rfl) (fun _ _ _ h => h) (Or.inl ⟨by rfl, ?_⟩) hHeld ?_ ?_
   rotate_left
   ·
    rintro w' ⟨s0, s1, s2⟩
    go_simp
    with_reducible rfl
   rotate_left
   ·
    simp only [Act.put, List.setIfInBounds_toArray, List.set_cons_zero, List.set_cons_succ, i64_w, i32_w]
    rfl
   refine one_ (i := 0) (N := some 19) #[true, true, false, true, false, false] rfl rfl (by kernel_rfl) (by decide) (fun K hK => ?_)
   refine load_step (t := 110) (p := .tmp 4) (ad := ⟨bu, 0, none⟩) (by rfl) rfl rfl rfl (HLD.out _ u hHeld.1 HW.out.ul) ?_
   refine hK.out _ _ ⟨hHeld.1, hHeld.2.1, hHeld.2.2⟩ (fun hHeld => ?_)
   clear hK K
   refine norm_ (a' := ?_) ?_ ?_
   rotate_left
   ·
    show Act.put _ (some 19) _ = _
    simp only [Act.put, List.setIfInBounds_toArray, List.set_cons_zero, List.set_cons_succ, i64_w, i32_w]
    rfl
   refine one_ (i := 2) (N := some 21) #[true, true, true, true, false, false] rfl rfl (by kernel_rfl) (by decide) (fun K hK => ?_)
   refine goes_ Try.func67 (by kernel_rfl) rfl #[.agg (arrV u), .int .i64 n] (by rfl) rfl rfl (by simp only [List.map_toArray, List.map_cons, List.map_nil]; rfl) ?_
   with_reducible refine (uneven_calls n h HH.out h1 h3 n2 n6 u HW.out.ul _).mono ?_
   rintro e w3 ⟨rfl, hb3⟩
   refine ⟨_, rfl, ?_⟩
   have HB3 := Aside0.mk hb3
   have q1 := blk_below hHeld.1 hb3
   have q2 := (hb3.cell (World.block_lt_of_cell? _ _ hHeld.2.1)).trans hHeld.2.1
   have q3 := (hb3.cell (World.block_lt_of_cell? _ _ hHeld.2.2)).trans hHeld.2.2
   clear hb3
   refine hK.out _ _ ⟨q1, q2, q3⟩ (fun hHeld => ?_)
   clear hK K
   refine norm_ (a' := ?_) ?_ ?_
   rotate_left
   ·
    show Act.put _ (some 21) _ = _
    simp only [Act.put, List.setIfInBounds_toArray, List.set_cons_zero, List.set_cons_succ, i64_w, i32_w]
    rfl
   refine pure_ (i := 4) (N := some 23) (v := ?_) (a' := ?_) #[true, true, true, true, true, false] rfl rfl (by kernel_rfl) (fun _ _ _ h => h) (Or.inl ⟨by rfl, ?_⟩) ?_ ?_
   rotate_left
   ·
    intro w'
    go_simp
    with_reducible rfl
   rotate_left
   ·
    simp only [Act.put, List.setIfInBounds_toArray, List.set_cons_zero, List.set_cons_succ, i64_w, i32_w]
    rfl
   refine pure_ (i := 5) (N := some 11) (v := ?_) (a' := ?_) #[true, true, true, true, true, true] rfl rfl (by kernel_rfl) (fun _ _ _ h => h) (Or.inl ⟨by rfl, ?_⟩) ?_ ?_
   rotate_left
   ·
    intro w'
    go_simp
    with_reducible rfl
   rotate_left
   ·
    simp only [Act.put, List.setIfInBounds_toArray, List.set_cons_zero, List.set_cons_succ, i64_w, i32_w]
    rfl
   refine done_ (by kernel_rfl) ?_
   have hX : giveF n un h (k + 1) L.length 0 tk L u = (decide (unevenTo u h n.toNat ≤ un), L, u, tk) := by unfold giveF; rw [if_pos rfl]
   go_wp2
   (try rw [Exit.noGoto_ret])
   refine bodyPost_ret (v := .bool (decide (unevenTo u h n.toNat ≤ un))) (by simp [results, Try.results97, go_sem]) rfl ?_
   rw [hX]
   have hb := (below_drew1 (Below.refl w.heap.size w)).trans HB3.out
   exact ⟨rfl, HW.out.below hb, Kd.R_below HT.out hb, fun g _ hg _ _ => hb.block g hg, hb.mono (by have := HBS.out; omega), fun g hg => hb.block g (Kd.S_lt HW.out.hS g hg)⟩
  ·
   have hrl : r < L.length := by omega
   have hrb : ((r : Int) == (L.length : Int)) = false := by rw [beq_eq_false_iff_ne]; omega
   have hrb2 : (r == L.length) = false := by rw [beq_eq_false_iff_ne]; omega
   obtain ⟨ad, A0, c0, rfl, q0, hc0, hr0⟩ := at_L7 (Kd.S_reads' HW.out.hS).2.2 (r : Int) (by omega) (by omega)
   rw [Int.toNat_natCast] at q0
   have hrow : rd_L7 L (r : Int) = L.getD r [] := rfl
   rw [hrow] at q0 hc0 hr0
   have HRE := Lib.hid hre
   have ha' := ha hrl
   clear hre ha hc0 hr0 hrow hz
   by_cases hae : a = (L.getD r []).length
   ·
    obtain ⟨len, hlen2⟩ : ∃ len, (L.getD r []).length = len := ⟨_, rfl⟩
    have HLEN2 := Lib.hid hlen2
    rw [hlen2] at q0 ha' hae
    subst hae
    clear hlen2
    cases hm : mostF n h un u with
    | false =>
     have hX : giveF n un h (k + 1) r a tk L u = (false, L, u, tk) := by unfold giveF; rw [if_neg HRE.out, if_pos HLEN2.out.symm, hm]; rfl
     have HX := Lib.hid hX
     have HM := Lib.hid hm
     clear hX hm
     go_enter Try.func97, Try.ntmps97
     go_wp2
     go_step3
     go_upto_region 4 with fail
     refine start_ (n := 14) (S := fun w' => w'.heap[bu]? = some (.cells (arrV u) 110 (0, 0)) ∧ w'.cell? ⟨bn, 0, none⟩ = some (.int .i64 n) ∧ w'.cell? ⟨bv, 0, none⟩ = some (.int .i64 un) ∧ w'.cell? ⟨bg, 0, none⟩ = some (GV bl bu bn bv bg)) (ds := []) #[false, false, false, false, false, false, false, false, false, false, false, false, false, false] (by kernel_rfl) rfl rfl ⟨HW.out.hu, n0, v0, g0⟩ (fun hHeld => ?_)
     refine take_ (i := 1) (N := some 33) (v := ?_) (a' := ?_) #[false, true, false, false, false, false, false, false, false, false, false, false, false, false] rfl rfl (by kernel_rfl) (fun _ _ _ h => h) (Or.inl ⟨by rfl, ?_⟩) hHeld ?_ ?_
     rotate_left
     ·
      rintro w' ⟨s0, s1, s2, s3⟩
      go_simp
      with_reducible rfl
     rotate_left
     ·
      simp only [Act.put, List.setIfInBounds_toArray, List.set_cons_zero, List.set_cons_succ, i64_w, i32_w]
      rfl
     refine take_ (i := 2) (N := some 34) (v := ?_) (a' := ?_) #[false, true, true, false, false, false, false, false, false, false, false, false, false, false] rfl rfl (by kernel_rfl) (fun _ _ _ h => h) (Or.inl ⟨by rfl, ?_⟩) hHeld ?_ ?_
     rotate_left
     ·
      rintro w' ⟨s0, s1, s2, s3⟩
      go_simp
      with_reducible rfl
     rotate_left
     ·
      simp only [Act.put, List.setIfInBounds_toArray, List.set_cons_zero, List.set_cons_succ, i64_w, i32_w]
      rfl
     refine one_ (i := 0) (N := some 32) #[true, true, true, false, false, false, false, false, false, false, false, false, false, false] rfl rfl (by kernel_rfl) (by decide) (fun K hK => ?_)
     refine load_step (t := 110) (p := .tmp 4) (ad := ⟨bu, 0, none⟩) (by rfl) rfl rfl rfl (HLD.out _ u hHeld.1 HW.out.ul) ?_
     refine hK.out _ _ ⟨hHeld.1, hHeld.2.1, hHeld.2.2.1, hHeld.2.2.2⟩ (fun hHeld => ?_)
     clear hK K
     refine norm_ (a' := ?_) ?_ ?_
     rotate_left
     ·
      show Act.put _ (some 32) _ = _
      simp only [Act.put, List.setIfInBounds_toArray, List.set_cons_zero, List.set_cons_succ, i64_w, i32_w]
      rfl
     refine one_ (i := 3) (N := some 35) #[true, true, true, true, false, false, false, false, false, false, false, false, false, false] rfl rfl (by kernel_rfl) (by decide) (fun K hK => ?_)
     refine goes_ Try.func98 (by kernel_rfl) rfl #[.agg (arrV u), .int .i64 n, .int .i64 un] (by rfl) rfl rfl (by simp only [List.map_toArray, List.map_cons, List.map_nil]; rfl) ?_
     with_reducible refine (most_calls n h HH.out h1 h3 n2 n6 un u HW.out.ul _).mono ?_
     rintro e w3 ⟨rfl, hb3⟩
     rw [HM.out]
     refine ⟨_, rfl, ?_⟩
     have HB3 := Aside0.mk hb3
     have q1 := blk_below hHeld.1 hb3
     have q2 := (hb3.cell (World.block_lt_of_cell? _ _ hHeld.2.1)).trans hHeld.2.1
     have q3 := (hb3.cell (World.block_lt_of_cell? _ _ hHeld.2.2.1)).trans hHeld.2.2.1
     have q4 := (hb3.cell (World.block_lt_of_cell? _ _ hHeld.2.2.2)).trans hHeld.2.2.2
     clear hb3
     refine hK.out _ _ ⟨q1, q2, q3, q4⟩ (fun hHeld => ?_)
     clear hK K
     refine norm_ (a' := ?_) ?_ ?_
     rotate_left
     ·
      show Act.put _ (some 35) _ = _
      simp only [Act.put, List.setIfInBounds_toArray, List.set_cons_zero, List.set_cons_succ, i64_w, i32_w]
      rfl
     refine pure_ (i := 4) (N := some 36) (v := ?_) (a' := ?_) #[true, true, true, true, true, false, false, false, false, false, false, false, false, false] rfl rfl (by kernel_rfl) (fun _ _ _ h => h) (Or.inl ⟨by rfl, ?_⟩) ?_ ?_
     rotate_left
     ·
      intro w'
      go_simp
      with_reducible rfl
     rotate_left
     ·
      simp only [Act.put, List.setIfInBounds_toArray, List.set_cons_zero, List.set_cons_succ, i64_w, i32_w]
      rfl
     refine pure_ (i := 5) (N := some 37) (v := undef) (a' := ?_) #[true, true, true, true, true, true, false, false, false, false, false, false, false, false] rfl rfl (by kernel_rfl) (fun _ _ _ h => h) (Or.inr ⟨by rfl, rfl⟩) ?_ ?_
     rotate_left
     ·
      simp only [Act.put, List.setIfInBounds_toArray, List.set_cons_zero, List.set_cons_succ, i64_w, i32_w]
      rfl
     refine pure_ (i := 6) (N := some 38) (v := undef) (a' := ?_) #[true, true, true, true, true, true, true, false, false, false, false, false, false, false] rfl rfl (by kernel_rfl) (fun _ _ _ h => h) (Or.inr ⟨by rfl, rfl⟩) ?_ ?_
     rotate_left
     ·
      simp only [Act.put, List.setIfInBounds_toArray, List.set_cons_zero, List.set_cons_succ, i64_w, i32_w]
      rfl
     refine pure_ (i := 7) (N := some 39) (v := undef) (a' := ?_) #[true, true, true, true, true, true, true, true, false, false, false, false, false, false] rfl rfl (by kernel_rfl) (fun _ _ _ h => h) (Or.inr ⟨by rfl, rfl⟩) ?_ ?_
     rotate_left
     ·
      simp only [Act.put, List.setIfInBounds_toArray, List.set_cons_zero, List.set_cons_succ, i64_w, i32_w]
      rfl
     refine pure_ (i := 8) (N := some 40) (v := undef) (a' := ?_) #[true, true, true, true, true, true, true, true, true, false, false, false, false, false] rfl rfl (by kernel_rfl) (fun _ _ _ h => h) (Or.inr ⟨by rfl, rfl⟩) ?_ ?_
     rotate_left
     ·
      simp only [Act.put, List.setIfInBounds_toArray, List.set_cons_zero, List.set_cons_succ, i64_w, i32_w]
      rfl
     refine pure_ (i := 9) (N := some 41) (v := undef) (a' := ?_) #[true, true, true, true, true, true, true, true, true, true, false, false, false, false] rfl rfl (by kernel_rfl) (fun _ _ _ h => h) (Or.inr ⟨by rfl, rfl⟩) ?_ ?_
     rotate_left
     ·
      simp only [Act.put, List.setIfInBounds_toArray, List.set_cons_zero, List.set_cons_succ, i64_w, i32_w]
      rfl
     refine pure_ (i := 10) (N := some 42) (v := undef) (a' := ?_) #[true, true, true, true, true, true, true, true, true, true, true, false, false, false] rfl rfl (by kernel_rfl) (fun _ _ _ h => h) (Or.inr ⟨by rfl, rfl⟩) ?_ ?_
     rotate_left
     ·
      simp only [Act.put, List.setIfInBounds_toArray, List.set_cons_zero, List.set_cons_succ, i64_w, i32_w]
      rfl
     refine pure_ (i := 11) (N := some 43) (v := undef) (a' := ?_) #[true, true, true, true, true, true, true, true, true, true, true, true, false, false] rfl rfl (by kernel_rfl) (fun _ _ _ h => h) (Or.inr ⟨by rfl, rfl⟩) ?_ ?_
     rotate_left
     ·
      simp only [Act.put, List.setIfInBounds_toArray, List.set_cons_zero, List.set_cons_succ, i64_w, i32_w]
      rfl
     refine pure_ (i := 12) (N := some 44) (v := ?_) (a' := ?_) #[true, true, true, true, true, true, true, true, true, true, true, true, true, false] rfl rfl (by kernel_rfl) (fun _ _ _ h => h) (Or.inl ⟨by rfl, ?_⟩) ?_ ?_
     rotate_left
     ·
      intro w'
      go_simp
      with_reducible rfl
     rotate_left
     ·
      simp only [Act.put, List.setIfInBounds_toArray, List.set_cons_zero, List.set_cons_succ, i64_w, i32_w]
      rfl
     refine pure_ (i := 13) (N := some 11) (v := ?_) (a' := ?_) #[true, true, true, true, true, true, true, true, true, true, true, true, true, true] rfl rfl (by kernel_rfl) (fun _ _ _ h => h) (Or.inl ⟨by rfl, ?_⟩) ?_ ?_
     rotate_left
     ·
      intro w'
      go_simp
      with_reducible rfl
     rotate_left
     ·
      simp only [Act.put, List.setIfInBounds_toArray, List.set_cons_zero, List.set_cons_succ, i64_w, i32_w]
      rfl
     refine done_ (by kernel_rfl) ?_
     go_wp2
     (try rw [Exit.noGoto_ret])
     refine bodyPost_ret (v := .bool false) (by simp [results, Try.results97, go_sem]) rfl ?_
     rw [HX.out]
     have hb := (below_drew1 (Below.refl w.heap.size w)).trans HB3.out
     exact ⟨rfl, HW.out.below hb, Kd.R_below HT.out hb, fun g _ hg _ _ => hb.block g hg, hb.mono (by have := HBS.out; omega), fun g hg => hb.block g (Kd.S_lt HW.out.hS g hg)⟩
    | true =>
     have hX : giveF n un h (k + 1) r a tk L u = ((giveF n un h k (r + 1) 0 (List.replicate h false) L u).1, (giveF n un h k (r + 1) 0 (List.replicate h false) L u).2.1, (giveF n un h k (r + 1) 0 (List.replicate h false) L u).2.2.1, tk) := by rw [giveF_succ n un h k r a tk L u, if_neg HRE.out, if_pos HLEN2.out.symm, if_pos hm]
     have HX := Lib.hid hX
     have HM := Lib.hid hm
     clear hX hm
     have HND : Hid (needF sh (r + 1) 0 ≤ k) := by
      have h1 := need_next HSH.out r hrl
      have h2 := HK.out
      rw [HLEN2.out] at h1
      show needF sh (r + 1) 0 ≤ k
      omega
     have HW1 : Hid (wrap64 ((r : Int) + 1) = ((r + 1 : Nat) : Int)) := by
      show wrap64 ((r : Int) + 1) = ((r + 1 : Nat) : Int)
      rw [IntWalk.wrap64_in _ ⟨by omega, by omega⟩]
      omega
     obtain ⟨res, hres⟩ : ∃ res, giveF n un h k (r + 1) 0 (List.replicate h false) L u = res := ⟨_, rfl⟩
     have HRES := Lib.hid hres
     rw [hres] at HX
     clear hres
     go_enter Try.func97, Try.ntmps97
     go_wp2
     go_step3
     go_upto_region 4 with fail
     refine start_ (n := 14) (S := fun w' => w'.heap[bu]? = some (.cells (arrV u) 110 (0, 0)) ∧ w'.cell? ⟨bn, 0, none⟩ = some (.int .i64 n) ∧ w'.cell? ⟨bv, 0, none⟩ = some (.int .i64 un) ∧ w'.cell? ⟨bg, 0, none⟩ = some (GV bl bu bn bv bg)) (ds := [11]) #[false, false, false, false, false, false, false, false, false, false, false, false, false, false] (by kernel_rfl) rfl rfl ⟨HW.out.hu, n0, v0, g0⟩ (fun hHeld => ?_)
     refine take_ (i := 1) (N := some 33) (v := ?_) (a' := ?_) #[false, true, false, false, false, false, false, false, false, false, false, false, false, false] rfl rfl (by kernel_rfl) (fun _ _ _ h => h) (Or.inl ⟨by rfl, ?_⟩) hHeld ?_ ?_
     rotate_left
     ·
      rintro w' ⟨s0, s1, s2, s3⟩
      go_simp
      with_reducible rfl
     rotate_left
     ·
      simp only [Act.put, List.setIfInBounds_toArray, List.set_cons_zero, List.set_cons_succ, i64_w, i32_w]
      rfl
     refine take_ (i := 2) (N := some 34) (v := ?_) (a' := ?_) #[false, true, true, false, false, false, false, false, false, false, false, false, false, false] rfl rfl (by kernel_rfl) (fun _ _ _ h => h) (Or.inl ⟨by rfl, ?_⟩) hHeld ?_ ?_
     rotate_left
     ·
      rintro w' ⟨s0, s1, s2, s3⟩
      go_simp
      with_reducible rfl
     rotate_left
     ·
      simp only [Act.put, List.setIfInBounds_toArray, List.set_cons_zero, List.set_cons_succ, i64_w, i32_w]
      rfl
     refine one_ (i := 0) (N := some 32) #[true, true, true, false, false, false, false, false, false, false, false, false, false, false] rfl rfl (by kernel_rfl) (by decide) (fun K hK => ?_)
     refine load_step (t := 110) (p := .tmp 4) (ad := ⟨bu, 0, none⟩) (by rfl) rfl rfl rfl (HLD.out _ u hHeld.1 HW.out.ul) ?_
     refine hK.out _ _ ⟨hHeld.1, hHeld.2.1, hHeld.2.2.1, hHeld.2.2.2⟩ (fun hHeld => ?_)
     clear hK K
     refine norm_ (a' := ?_) ?_ ?_
     rotate_left
     ·
      show Act.put _ (some 32) _ = _
      simp only [Act.put, List.setIfInBounds_toArray, List.set_cons_zero, List.set_cons_succ, i64_w, i32_w]
      rfl
     refine one_ (i := 3) (N := some 35) #[true, true, true, true, false, false, false, false, false, false, false, false, false, false] rfl rfl (by kernel_rfl) (by decide) (fun K hK => ?_)
     refine goes_ Try.func98 (by kernel_rfl) rfl #[.agg (arrV u), .int .i64 n, .int .i64 un] (by rfl) rfl rfl (by simp only [List.map_toArray, List.map_cons, List.map_nil]; rfl) ?_
     with_reducible refine (most_calls n h HH.out h1 h3 n2 n6 un u HW.out.ul _).mono ?_
     rintro e w3 ⟨rfl, hb3⟩
     rw [HM.out]
     refine ⟨_, rfl, ?_⟩
     have HB3 := Aside0.mk hb3
     have q1 := blk_below hHeld.1 hb3
     have q2 := (hb3.cell (World.block_lt_of_cell? _ _ hHeld.2.1)).trans hHeld.2.1
     have q3 := (hb3.cell (World.block_lt_of_cell? _ _ hHeld.2.2.1)).trans hHeld.2.2.1
     have q4 := (hb3.cell (World.block_lt_of_cell? _ _ hHeld.2.2.2)).trans hHeld.2.2.2
     clear hb3
     refine hK.out _ _ ⟨q1, q2, q3, q4⟩ (fun hHeld => ?_)
     clear hK K
     refine norm_ (a' := ?_) ?_ ?_
     rotate_left
     ·
      show Act.put _ (some 35) _ = _
      simp only [Act.put, List.setIfInBounds_toArray, List.set_cons_zero, List.set_cons_succ, i64_w, i32_w]
      rfl
     refine pure_ (i := 4) (N := some 36) (v := ?_) (a' := ?_) #[true, true, true, true, true, false, false, false, false, false, false, false, false, false] rfl rfl (by kernel_rfl) (fun _ _ _ h => h) (Or.inl ⟨by rfl, ?_⟩) ?_ ?_
     rotate_left
     ·
      intro w'
      go_simp
      with_reducible rfl
     rotate_left
     ·
      simp only [Act.put, List.setIfInBounds_toArray, List.set_cons_zero, List.set_cons_succ, i64_w, i32_w]
      rfl
     refine pure_ (i := 6) (N := some 38) (v := ?_) (a' := ?_) #[true, true, true, true, true, false, true, false, false, false, false, false, false, false] rfl rfl (by kernel_rfl) (fun _ _ _ h => h) (Or.inl ⟨by rfl, ?_⟩) ?_ ?_
     rotate_left
     ·
      intro w'
      go_simp
      with_reducible rfl
     rotate_left
     ·
      simp only [Act.put, List.setIfInBounds_toArray, List.set_cons_zero, List.set_cons_succ, i64_w, i32_w]
      rfl
     refine pure_ (i := 7) (N := some 39) (v := ?_) (a' := ?_) #[true, true, true, true, true, false, true, true, false, false, false, false, false, false] rfl rfl (by kernel_rfl) (fun _ _ _ h => h) (Or.inl ⟨by rfl, ?_⟩) ?_ ?_
     rotate_left
     ·
      intro w'
      go_simp
      with_reducible rfl
     rotate_left
     ·
      simp only [Act.put, List.setIfInBounds_toArray, List.set_cons_zero, List.set_cons_succ, i64_w, i32_w]
      rfl
     refine take_ (i := 5) (N := some 37) (v := ?_) (a' := ?_) #[true, true, true, true, true, true, true, true, false, false, false, false, false, false] rfl rfl (by kernel_rfl) (fun _ _ _ h => h) (Or.inl ⟨by rfl, ?_⟩) hHeld ?_ ?_
     rotate_left
     ·
      rintro w' ⟨s0, s1, s2, s3⟩
      go_simp
      with_reducible rfl
     rotate_left
     ·
      simp only [Act.put, List.setIfInBounds_toArray, List.set_cons_zero, List.set_cons_succ, i64_w, i32_w]
      rfl
     refine take_ (i := 8) (N := some 40) (v := ?_) (a' := ?_) #[true, true, true, true, true, true, true, true, true, false, false, false, false, false] rfl rfl (by kernel_rfl) (fun _ _ _ h => h) (Or.inl ⟨by rfl, ?_⟩) hHeld ?_ ?_
     rotate_left
     ·
      rintro w' ⟨s0, s1, s2, s3⟩
      go_simp
      with_reducible rfl
     rotate_left
     ·
      simp only [Act.put, List.setIfInBounds_toArray, List.set_cons_zero, List.set_cons_succ, i64_w, i32_w]
      rfl
     refine one_ (i := 9) (N := some 41) #[true, true, true, true, true, true, true, true, true, true, false, false, false, false] rfl rfl (by kernel_rfl) (by decide) (fun K hK => ?_)
     refine goes_ Try.func99 (by kernel_rfl) rfl #[.int .i64 n] (by rfl) rfl rfl (by simp only [List.map_toArray, List.map_cons, List.map_nil]; rfl) ?_
     with_reducible refine (halls_calls n h HH.out _).mono ?_
     rintro e w4 ⟨rfl, hd4⟩
     refine ⟨_, rfl, ?_⟩
     have hb4 := hd4.below
     have HB4 := Aside0.mk hb4
     have q1 := blk_below hHeld.1 hb4
     have q2 := (hb4.cell (World.block_lt_of_cell? _ _ hHeld.2.1)).trans hHeld.2.1
     have q3 := (hb4.cell (World.block_lt_of_cell? _ _ hHeld.2.2.1)).trans hHeld.2.2.1
     have q4 := (hb4.cell (World.block_lt_of_cell? _ _ hHeld.2.2.2)).trans hHeld.2.2.2
     clear hb4 hd4
     refine hK.out _ _ ⟨q1, q2, q3, q4⟩ (fun hHeld => ?_)
     clear hK K
     refine norm_ (a' := ?_) ?_ ?_
     rotate_left
     ·
      show Act.put _ (some 41) _ = _
      simp only [Act.put, List.setIfInBounds_toArray, List.set_cons_zero, List.set_cons_succ, i64_w, i32_w]
      rfl
     refine one_ (i := 10) (N := some 42) #[true, true, true, true, true, true, true, true, true, true, true, false, false, false] rfl rfl (by kernel_rfl) (by decide) (fun K hK => ?_)
     refine Kd.R_make_step Kd.bool (w0 := w4) (W := w4) N 4 (by rfl) (N := 42) rfl 133 (.tmp 41) (.tmp 41) rfl (h : Int) rfl rfl Try.underlying133 (.bool false) 1 info4 rfl (by decide) (by decide) false (ok := fun _ => True) (okp := fun _ => True) rfl (fun _ hk => hk) trivial (by omega) (by omega) (Below.refl _ _) (by have h1 := HN.out.nu; have h2 := blk_lt HW.out.hu; have h3 := HB3.out.size; have h4 := HB4.out.size; simp at h3; omega) ?_
     intro v1 w5 ho5 _ hg5 hf5
     rw [Int.toNat_natCast] at ho5
     have HT5 : Aside0 (TkAt w5 N v1 (List.replicate h false)) := ⟨ho5⟩
     have hb5 := grown_none hg5
     have HB5 := Aside0.mk hb5
     have HF5 := Aside0.mk hf5
     have q1 := blk_below hHeld.1 hb5
     have q2 := (hb5.cell (World.block_lt_of_cell? _ _ hHeld.2.1)).trans hHeld.2.1
     have q3 := (hb5.cell (World.block_lt_of_cell? _ _ hHeld.2.2.1)).trans hHeld.2.2.1
     have q4 := (hb5.cell (World.block_lt_of_cell? _ _ hHeld.2.2.2)).trans hHeld.2.2.2
     clear hb5 ho5 hg5 hf5
     refine hK.out _ _ ⟨q1, q2, q3, q4⟩ (fun hHeld => ?_)
     clear hK K
     refine norm_ (a' := ?_) ?_ ?_
     rotate_left
     ·
      show Act.put _ (some 42) _ = _
      simp only [Act.put, List.setIfInBounds_toArray, List.set_cons_zero, List.set_cons_succ, i64_w, i32_w]
      rfl
     refine last_ (i := 11) (N := some 43) #[true, true, true, true, true, true, true, true, true, true, true, true, false, false] rfl rfl (by kernel_rfl) (by decide) (fun K hK => ?_)
     refine goesF_ (f := 97) Try.func97 (by kernel_rfl) rfl #[] #[.pointer (some ⟨bl, 0, none⟩), .pointer (some ⟨bu, 0, none⟩), .pointer (some ⟨bn, 0, none⟩), .pointer (some ⟨bv, 0, none⟩), .pointer (some ⟨bg, 0, none⟩)] #[.int .i64 (wrap64 (r + 1)), .int .i64 0, v1] (by rfl) rfl rfl rfl (by simp only [List.map_toArray, List.map_cons, List.map_nil]; rfl) ?_
     have HBW : Aside0 (Below w.heap.size w w5) := ⟨by have h1 := (below_drew1 (Below.refl w.heap.size w)).trans HB3.out; exact (below_step h1 HB4.out |> fun h2 => below_step h2 HB5.out)⟩
     have hct : Calls Try.prog 97 #[.int .i64 (wrap64 (r + 1)), .int .i64 0, v1, .pointer (some ⟨bl, 0, none⟩), .pointer (some ⟨bu, 0, none⟩), .pointer (some ⟨bn, 0, none⟩), .pointer (some ⟨bv, 0, none⟩), .pointer (some ⟨bg, 0, none⟩)] w5 (layPost N base bl bu bn bv bg n un (.slice (some ad) L.length cv) v1 res w5) := by
      rw [HW1.out, ← HRES.out]
      exact HIH.out w5 v1 (List.replicate h false) L u (r + 1) 0 (HW.out.below HBW.out) HT5.out List.length_replicate HSH.out (by omega) (by omega) (by omega) (fun _ => rfl) HND.out
     refine Calls.mono hct ?_
     clear hct
     intro e w6 hpost
     have HP := Aside0.mk (layPost_up HBW.out HBS.out (by obtain ⟨b, hb1, hb2⟩ := HF5.out; have h1 := HB3.out.size; have h2 := HB4.out.size; simp at h1; exact ⟨b, hb1, by omega⟩) HT.out ⟨u, HW.out.hu⟩ (Kd.S_lt HW.out.hS) hpost)
     obtain ⟨rfl, _⟩ := hpost
     refine ⟨_, rfl, ?_⟩
     refine hK.out _ _ ?_
     clear hK K
     refine norm_ (a' := ?_) ?_ ?_
     rotate_left
     ·
      show Act.put _ (some 43) _ = _
      simp only [Act.put, List.setIfInBounds_toArray, List.set_cons_zero, List.set_cons_succ, i64_w, i32_w]
      rfl
     refine pure_ (i := 12) (N := some 44) (v := ?_) (a' := ?_) #[true, true, true, true, true, true, true, true, true, true, true, true, true, false] rfl rfl (by kernel_rfl) (fun _ _ _ h => h) (Or.inl ⟨by rfl, ?_⟩) ?_ ?_
     rotate_left
     ·
      intro w'
      go_simp
      with_reducible rfl
     rotate_left
     ·
      simp only [Act.put, List.setIfInBounds_toArray, List.set_cons_zero, List.set_cons_succ, i64_w, i32_w]
      rfl
     refine pure_ (i := 13) (N := some 11) (v := ?_) (a' := ?_) #[true, true, true, true, true, true, true, true, true, true, true, true, true, true] rfl rfl (by kernel_rfl) (fun _ _ _ h => h) (Or.inl ⟨by rfl, ?_⟩) ?_ ?_
     rotate_left
     ·
      intro w'
      go_simp
      with_reducible rfl
     rotate_left
     ·
      simp only [Act.put, List.setIfInBounds_toArray, List.set_cons_zero, List.set_cons_succ, i64_w, i32_w]
      rfl
     refine done_ (by kernel_rfl) ?_
     go_wp2
     (try rw [Exit.noGoto_ret])
     refine bodyPost_ret (v := .bool res.1) (by simp [results, Try.results97, go_sem]) rfl ?_
     rw [HX.out]
     exact HP.out
   ·
    have hal : a < (L.getD r []).length := by omega
    have hX : giveF n un h (k + 1) r a tk L u = laneF (giveF n un h k r (a + 1)) r a h 0 tk L u := by rw [giveF_succ n un h k r a tk L u, if_neg HRE.out, if_neg hae]
    have HX := Lib.hid hX
    clear hX hae
    have HND : Hid (needF sh r (a + 1) ≤ k) := by
     have h1 := need_step HSH.out r a hrl hal
     have h2 := HK.out
     show needF sh r (a + 1) ≤ k
     omega
    obtain ⟨m, hm⟩ : ∃ m, matchAt L r a = m := ⟨_, rfl⟩
    have hv : 0 ≤ m.f0 ∧ m.f0 < 6 ∧ 0 ≤ m.f1 ∧ m.f1 < 6 ∧ m.f0 ≠ m.f1 := by
     obtain ⟨l, hl1, hl2⟩ := shape_get HSH.out r hrl
     subst hm
     refine HVAL.out _ (?_ : (L.getD r []).map (fun m => (m.f0, m.f1)) ∈ sh) ((matchAt L r a).f0, (matchAt L r a).f1) ?_
     ·
      rw [← HSH.out, List.getD_eq_getElem?_getD, List.getElem?_eq_getElem hrl]
      exact List.mem_map_of_mem (List.getElem_mem hrl)
     ·
      unfold matchAt
      rw [List.getD_eq_getElem?_getD (l := L.getD r []), List.getElem?_eq_getElem hal]
      exact List.mem_map_of_mem (List.getElem_mem hal)
    obtain ⟨g, cr, p0, pN, pne, pb, p1, p2, p3, p4, _⟩ := lane_place HW.out.hS r a hrl hal
    rw [q0] at p0
    simp only [Option.some.injEq, Value.slice.injEq] at p0
    obtain ⟨rfl, hx1, rfl⟩ := p0
    clear hx1
    rw [hm] at p1 p2 p3
    have HM := Lib.hid hm
    obtain ⟨x0, x1, x2, x3, x4⟩ := hv
    have HPN := Aside0.mk pN
    have HPB := Aside0.mk pb
    have HPNE := Aside0.mk pne
    have hh1 : 0 < tk.length := by rw [HTK.out]; omega
    obtain ⟨gt, ct, rfl, tb, tl, tcells, tce⟩ := Kd.R_form HT.out hh1
    rw [HTK.out] at HT
    rw [HTK.out]
    have gtb : gt ≠ bu := fun e => by have := HT.out.ne HW.out.hu (by decide); rw [e] at this; exact this rfl
    have gtl : gt ≠ bl := fun e => by have := HT.out.ne HW.out.hl (by decide); rw [e] at this; exact this rfl
    have gtn : gt ≠ bn := fun e => by have := HT.out.ne HW.out.hn (by decide); rw [e] at this; exact this rfl
    have gtv : gt ≠ bv := fun e => by have := HT.out.ne HW.out.hv (by decide); rw [e] at this; exact this rfl
    have gtg : gt ≠ bg := fun e => by have := HT.out.ne HW.out.hg (by decide); rw [e] at this; exact this rfl
    have gg : g ≠ gt := by omega
    have gu : g ≠ bu := by have := HN.out.nu; omega
    have hlenr : ((L.getD r []).length : Int) ≤ 100 := by
     obtain ⟨l, hl1, hl2⟩ := shape_get HSH.out r hrl
     have := HSZ.out.2 l (List.mem_of_getElem? hl1)
     omega
    obtain ⟨len, hlen2⟩ : ∃ len, (L.getD r []).length = len := ⟨_, rfl⟩
    have HLEN2 := Lib.hid hlen2
    rw [hlen2] at q0 ha' hal hlenr
    have hab : ((a : Int) == (len : Int)) = false := by rw [beq_eq_false_iff_ne]; omega
    have hab2 : (a == len) = false := by rw [beq_eq_false_iff_ne]; omega
    have HTN := Aside0.mk (show N ≤ gt from tb)
    have gtu := gtb.symm
    have gg2 := gg.symm
    have gu2 := gu.symm
    have HADN := Aside0.mk (show ad.block < N from (Kd.S_R HW.out.hS).1 ad.block (by simp [Value.ownBlock]))
    have tb' := Aside0.mk tb
    have tl' := Aside0.mk tl
    have hcv : L.length ≤ cv := (Kd.S_reads' HW.out.hS).2.1
    clear hm hh1 tce tcells hlen2 p3 p4 pN pb pne tb tl HRE ha'
    go_enter Try.func97, Try.ntmps97
    go_wp2
    go_step3
    go_wp2
    go_step3
    go_wp2_with (first | (go_at_call 99; (with_reducible refine (halls_calls n h HH.out _).mono ?_); rintro e w1 ⟨rfl, ⟨nd, rfl⟩⟩))
    go_loopw [53] (fun v53 wr => ∃ (lane : Nat) (tk' : List Bool) (L' : List (List S57)) (u' : List Int), v53 = .int .i64 lane ∧ lane ≤ h ∧ Aside0 (giveF n un h (k + 1) r a tk L u = laneF (giveF n un h k r (a + 1)) r a (h - lane) lane tk' L' u') ∧ Aside0 (shape L' = sh) ∧ Aside0 (tk'.length = h) ∧
     Aside0 (LayW wr N base bl bu bn bv bg n un (.slice (some ad) L.length cv) L' u') ∧ Aside0 (TkAt wr N (.slice (some ⟨gt, 0, none⟩) h ct) tk') ∧ Aside0 (∀ k, N ≤ k → k < w.heap.size → k ≠ bu → k ≠ gt → wr.heap[k]? = w.heap[k]?) ∧ Aside0 (Below base w wr) ∧ Aside0 (wr.heap[ad.block]? = w.heap[ad.block]?)) (fun v _ => h - (intOf v).toNat)
    case atStart => exact ⟨0, tk, L, u, rfl, by omega, ⟨HX.out⟩, ⟨HSH.out⟩, ⟨HTK.out⟩, ⟨HW.out.below (pw_below_drewN (Below.refl _ _) _)⟩, ⟨Kd.R_drewN HT.out _⟩, ⟨fun _ _ _ _ _ => rfl⟩, ⟨pw_below_drewN (Below.refl _ _) _⟩, ⟨rfl⟩⟩
    case round =>
     obtain ⟨lane, tk', L', u', rfl, hlane, hX, hSH, hTK, hW, hT, hF, hB, hO⟩ := hrel
     by_cases hl : lane < h
     ·
      have lh : (lane : Int) < (h : Int) := by omega
      have l00 : (0 : Int) ≤ (lane : Int) := by omega
      have l3 : (lane : Int) < 3 := by omega
      have e1 : h - lane = (h - (lane + 1)) + 1 := by omega
      obtain ⟨ta, tf⟩ := Kd.R_celln false hT.out (lane : Int) (by omega) (by omega)
      rw [Int.toNat_natCast] at ta tf
      have hrdo : rdOf false tk' (lane : Int) = tk'.getD lane false := rfl
      rw [hrdo] at ta
      clear hrdo
      cases htk : tk'.getD lane false with
      | true =>
       rw [htk] at ta
       have HX2 : Hid (laneF (giveF n un h k r (a + 1)) r a (h - lane) lane tk' L' u' = laneF (giveF n un h k r (a + 1)) r a (h - (lane + 1)) (lane + 1) tk' L' u') := by
        show _ = _
        rw [e1]
        conv => lhs; unfold laneF
        rw [if_pos htk]
       clear e1 htk
       go_wp2
       go_roundw
       case rel => exact ⟨lane + 1, tk', L', u', by simp, by omega, ⟨hX.out.trans HX2.out⟩, hSH, hTK, hW, hT, hF, hB, hO⟩
       case measure => simp [intOf]; omega
      | false =>
       rw [htk] at ta
       obtain ⟨g', cr', p0, pN, pne, pb, c0, c1, c2, cf, _⟩ := lane_place hW.out.hS r a (by rw [shape_length (hSH.out.trans HSH.out.symm)]; exact hrl) (by rw [shape_rowlen (hSH.out.trans HSH.out.symm), HLEN2.out]; exact hal)
       have hadb : (ad.add r).block = ad.block := by unfold Addr.add; split <;> rfl
       rw [World.cell?_of_block (w := w) (w' := wr) (a := ad.add r) (by rw [hadb]; exact hO.out), q0] at p0
       simp only [Option.some.injEq, Value.slice.injEq, Addr.mk.injEq, and_true] at p0
       obtain ⟨rfl, hx1, hx2⟩ := p0
       clear hx1 hx2
       obtain ⟨mm0, mm1⟩ := shape_match (hSH.out.trans HSH.out.symm) r a
       rw [mm0, HM.out] at c0
       rw [mm1, HM.out] at c1
       have HMM : Hid ((matchAt L' r a).f0 = m.f0 ∧ (matchAt L' r a).f1 = m.f1) := ⟨by rw [mm0, HM.out], by rw [mm1, HM.out]⟩
       clear pN pne pb mm0 mm1 hadb
       have une : m.f0.toNat * 3 + lane ≠ m.f1.toNat * 3 + lane := by omega
       have une2 := une.symm
       have HTKF := Lib.hid htk
       clear e1 htk
       go_wp2_with fail
       obtain ⟨W1, hW1⟩ : ∃ W, W = ((wr.setCell ⟨g, a * 3 + 2, none⟩ (.int .i64 lane)).setCell ⟨gt, lane, none⟩ (.bool true)) := ⟨_, rfl⟩
       rw [← hW1]
       have i1 := lane_place hW.out.hS r a (by rw [shape_length (hSH.out.trans HSH.out.symm)]; exact hrl) (by rw [shape_rowlen (hSH.out.trans HSH.out.symm), HLEN2.out]; exact hal)
       have HS1 : Aside0 (LayW W1 N base bl bu bn bv bg n un (.slice (some ad) L.length cv) (laneAt L' r a lane) u') := by
        obtain ⟨g', cr', p0', _, _, _, _, _, _, _, i2⟩ := i1
        have hadb : (ad.add r).block = ad.block := by unfold Addr.add; split <;> rfl
        rw [World.cell?_of_block (w := w) (w' := wr) (a := ad.add r) (by rw [hadb]; exact hO.out), q0] at p0'
        simp only [Option.some.injEq, Value.slice.injEq, Addr.mk.injEq, and_true] at p0'
        obtain ⟨rfl, _, _⟩ := p0'
        have h2 := hW.out.setL HN.out g (a * 3 + 2) (.int .i64 lane) HPN.out (i2 lane)
        rw [hW1]
        exact ⟨h2.grown (grownBy_at _ gt lane (.bool true)) HTN.out gtl gtb gtn gtv gtg⟩
       have HT1 : Aside0 (TkAt W1 N (.slice (some ⟨gt, 0, none⟩) h ct) (tk'.set lane true)) := by
        have h1 : TkAt (wr.setCell ⟨g, a * 3 + 2, none⟩ (.int .i64 lane)) N (.slice (some ⟨gt, 0, none⟩) h ct) tk' := hT.out.same (fun k hk => by
         injection hk with hk
         subst hk
         exact Below.heap_setCell wr ⟨g, a * 3 + 2, none⟩ _ gt gg2)
        have h2 := Kd.R_putn h1 (lane : Int) true
        rw [Int.toNat_natCast] at h2
        rw [hW1]
        exact ⟨h2⟩
       have HF1 : Aside0 (∀ k, N ≤ k → k < w.heap.size → k ≠ bu → k ≠ gt → W1.heap[k]? = w.heap[k]?) := ⟨fun k k1 k2 k3 k4 => by
        rw [hW1]
        exact (Below.heap_setCell _ ⟨gt, lane, none⟩ _ k k4).trans ((Below.heap_setCell wr ⟨g, a * 3 + 2, none⟩ _ k (by have := HPN.out; show k ≠ g; omega)).trans (hF.out k k1 k2 k3 k4))⟩
       have HB1 : Aside0 (Below base w W1) := ⟨by rw [hW1]; exact below_store (below_store hB.out g _ HPB.out _) gt _ (Nat.le_trans HN.out.hb HTN.out) _⟩
       have HO1 : Aside0 (W1.heap[ad.block]? = w.heap[ad.block]?) := ⟨by
        rw [hW1]
        exact (Below.heap_setCell _ ⟨gt, lane, none⟩ _ ad.block (by have := HADN.out; have := HTN.out; show ad.block ≠ gt; omega)).trans ((Below.heap_setCell wr ⟨g, a * 3 + 2, none⟩ _ ad.block (HPNE.out.symm)).trans hO.out)⟩
       have d0 : W1.cell? ⟨g, a * 3, none⟩ = some (.int .i64 m.f0) := by
        rw [hW1]
        exact (World.cell?_of_block (a := ⟨g, a * 3, none⟩) (Below.heap_setCell _ ⟨gt, lane, none⟩ _ g gg)).trans ((World.cell?_setCell_other wr _ _ _ (by intro e; simp at e)).trans c0)
       have d1 : W1.cell? ⟨g, a * 3 + 1, none⟩ = some (.int .i64 m.f1) := by
        rw [hW1]
        exact (World.cell?_of_block (a := ⟨g, a * 3 + 1, none⟩) (Below.heap_setCell _ ⟨gt, lane, none⟩ _ g gg)).trans ((World.cell?_setCell_other wr _ _ _ (by intro e; simp at e)).trans c1)
       clear i1 c0 c1 c2 cf hW1
       have ua := HS1.out.hu.cell (m.f0.toNat * 3 + lane) (by rw [HS1.out.ul]; omega)
       have uaf := HS1.out.hu.frozen (m.f0.toNat * 3 + lane)
       go_still_tail 11, (by kernel_rfl)
       change wpList _ _ _ _ _ W1.drew
       have ua2 : W1.drew.cell? ⟨bu, m.f0.toNat * 3 + lane, none⟩ = some (.int .i64 ((u').getD (m.f0.toNat * 3 + lane) 0)) := ua
       have uaf2 : W1.drew.frozen? ⟨bu, m.f0.toNat * 3 + lane, none⟩ = false := uaf
       clear ua uaf
       have e0 : W1.drew.cell? ⟨g, a * 3, none⟩ = _ := d0
       have e1 : W1.drew.cell? ⟨g, a * 3 + 1, none⟩ = _ := d1
       clear d0 d1
       go_wp2_with fail
       clear ua2 uaf2
       obtain ⟨W2, hW2⟩ : ∃ W, W = (W1.setCell ⟨bu, m.f0.toNat * 3 + lane, none⟩ (.int .i64 (wrap64 ((u')[m.f0.toNat * 3 + lane]?.getD 0 + 1)))).drew := ⟨_, rfl⟩
       rw [← hW2]
       have HS2 : Aside0 (LayW W2 N base bl bu bn bv bg n un (.slice (some ad) L.length cv) (laneAt L' r a lane) (useAt (u') m.f0 lane 1)) := ⟨by
        have h1 := HS1.out.setU HN.out (m.f0.toNat * 3 + lane) (wrap64 ((u')[m.f0.toNat * 3 + lane]?.getD 0 + 1))
        rw [hW2]
        unfold useAt
        rw [List.getD_eq_getElem?_getD, Int.toNat_natCast]
        exact h1.below (below_drew1 (Below.refl _ _))⟩
       have HT2 : Aside0 (TkAt W2 N (.slice (some ⟨gt, 0, none⟩) h ct) _) := ⟨HT1.out.same (fun k hk => by
        injection hk with hk
        subst hk
        rw [hW2]
        exact Below.heap_setCell W1 ⟨bu, _, none⟩ _ gt gtb)⟩
       have HF2 : Aside0 (∀ k, N ≤ k → k < w.heap.size → k ≠ bu → k ≠ gt → W2.heap[k]? = w.heap[k]?) := ⟨fun k k1 k2 k3 k4 => by
        rw [hW2]
        exact (Below.heap_setCell W1 ⟨bu, _, none⟩ _ k k3).trans (HF1.out k k1 k2 k3 k4)⟩
       have HB2 : Aside0 (Below base w W2) := ⟨by rw [hW2]; exact below_drew1 (below_store HB1.out bu _ (Nat.le_trans HN.out.hb HN.out.nu) _)⟩
       have HO2 : Aside0 (W2.heap[ad.block]? = w.heap[ad.block]?) := ⟨by
        rw [hW2]
        exact (Below.heap_setCell W1 ⟨bu, _, none⟩ _ ad.block (by have := HADN.out; have := HN.out.nu; show ad.block ≠ bu; omega)).trans HO1.out⟩
       have d0 : W2.cell? ⟨g, a * 3, none⟩ = some (.int .i64 m.f0) := by
        rw [hW2]
        exact (World.cell?_of_block (a := ⟨g, a * 3, none⟩) (Below.heap_setCell W1 ⟨bu, _, none⟩ _ g gu)).trans e0
       have d1 : W2.cell? ⟨g, a * 3 + 1, none⟩ = some (.int .i64 m.f1) := by
        rw [hW2]
        exact (World.cell?_of_block (a := ⟨g, a * 3 + 1, none⟩) (Below.heap_setCell W1 ⟨bu, _, none⟩ _ g gu)).trans e1
       clear e0 e1 hW2
       have ua := HS2.out.hu.cell (m.f1.toNat * 3 + lane) (by rw [HS2.out.ul]; omega)
       have uaf := HS2.out.hu.frozen (m.f1.toNat * 3 + lane)
       go_still_tail 11, (by kernel_rfl)
       change wpList _ _ _ _ _ W2.drew
       have ua2 : W2.drew.cell? ⟨bu, m.f1.toNat * 3 + lane, none⟩ = some (.int .i64 ((useAt u' m.f0 lane 1).getD (m.f1.toNat * 3 + lane) 0)) := ua
       have uaf2 : W2.drew.frozen? ⟨bu, m.f1.toNat * 3 + lane, none⟩ = false := uaf
       clear ua uaf
       have e0 : W2.drew.cell? ⟨g, a * 3, none⟩ = _ := d0
       have e1 : W2.drew.cell? ⟨g, a * 3 + 1, none⟩ = _ := d1
       clear d0 d1
       go_upto_region 13 with fail
       clear ua2 uaf2
       obtain ⟨W3, hW3⟩ : ∃ W, W = (W2.setCell ⟨bu, m.f1.toNat * 3 + lane, none⟩ (.int .i64 (wrap64 ((useAt u' m.f0 lane 1)[m.f1.toNat * 3 + lane]?.getD 0 + 1)))).drew := ⟨_, rfl⟩
       rw [← hW3]
       have HS3 : Aside0 (LayW W3 N base bl bu bn bv bg n un (.slice (some ad) L.length cv) (laneAt L' r a lane) (useAt (useAt u' m.f0 lane 1) m.f1 lane 1)) := ⟨by
        have h1 := HS2.out.setU HN.out (m.f1.toNat * 3 + lane) (wrap64 ((useAt u' m.f0 lane 1)[m.f1.toNat * 3 + lane]?.getD 0 + 1))
        rw [hW3]
        unfold useAt
        rw [List.getD_eq_getElem?_getD, Int.toNat_natCast]
        exact h1.below (below_drew1 (Below.refl _ _))⟩
       have HT3 : Aside0 (TkAt W3 N (.slice (some ⟨gt, 0, none⟩) h ct) _) := ⟨HT2.out.same (fun k hk => by
        injection hk with hk
        subst hk
        rw [hW3]
        exact Below.heap_setCell W2 ⟨bu, _, none⟩ _ gt gtb)⟩
       have HF3 : Aside0 (∀ k, N ≤ k → k < w.heap.size → k ≠ bu → k ≠ gt → W3.heap[k]? = w.heap[k]?) := ⟨fun k k1 k2 k3 k4 => by
        rw [hW3]
        exact (Below.heap_setCell W2 ⟨bu, _, none⟩ _ k k3).trans (HF2.out k k1 k2 k3 k4)⟩
       have HB3 : Aside0 (Below base w W3) := ⟨by rw [hW3]; exact below_drew1 (below_store HB2.out bu _ (Nat.le_trans HN.out.hb HN.out.nu) _)⟩
       have HO3 : Aside0 (W3.heap[ad.block]? = w.heap[ad.block]?) := ⟨by
        rw [hW3]
        exact (Below.heap_setCell W2 ⟨bu, _, none⟩ _ ad.block (by have := HADN.out; have := HN.out.nu; show ad.block ≠ bu; omega)).trans HO2.out⟩
       have d0 : W3.cell? ⟨g, a * 3, none⟩ = some (.int .i64 m.f0) := by
        rw [hW3]
        exact (World.cell?_of_block (a := ⟨g, a * 3, none⟩) (Below.heap_setCell W2 ⟨bu, _, none⟩ _ g gu)).trans e0
       have d1 : W3.cell? ⟨g, a * 3 + 1, none⟩ = some (.int .i64 m.f1) := by
        rw [hW3]
        exact (World.cell?_of_block (a := ⟨g, a * 3 + 1, none⟩) (Below.heap_setCell W2 ⟨bu, _, none⟩ _ g gu)).trans e1
       clear e0 e1 hW3
       have hus : usesAt u' (matchAt L' r a) lane 1 = useAt (useAt u' m.f0 lane 1) m.f1 lane 1 := by unfold usesAt; rw [HMM.out.1, HMM.out.2]
       obtain ⟨res, hres⟩ : ∃ res, giveF n un h k r (a + 1) (tk'.set lane true) (laneAt L' r a lane) (useAt (useAt u' m.f0 lane 1) m.f1 lane 1) = res := ⟨_, rfl⟩
       have HSHR : Hid (shape res.2.1 = sh) := by show _ = _; rw [← hres, shape_giveF, shape_laneAt]; exact hSH.out
       have HTKR : Hid (res.2.2.2.length = h) := by show _ = _; rw [← hres, taken_giveF, List.length_set]; exact hTK.out
       have hstep : laneF (giveF n un h k r (a + 1)) r a (h - lane) lane tk' L' u' = if res.1 = true then res else laneF (giveF n un h k r (a + 1)) r a (h - (lane + 1)) (lane + 1) (res.2.2.2.set lane false) res.2.1 (useAt (useAt res.2.2.1 m.f0 lane (-1)) m.f1 lane (-1)) := by
        rw [show h - lane = (h - (lane + 1)) + 1 from by omega]
        conv => lhs; unfold laneF
        rw [if_neg (by rw [HTKF.out]; decide), hus, hres]
        unfold usesAt
        rw [HMM.out.1, HMM.out.2]
       have HSTEP := Lib.hid hstep
       have HCT : Hid (Calls Try.prog 97 #[.int .i64 r, .int .i64 ((a : Int) + 1), .slice (some ⟨gt, 0, none⟩) h ct, .pointer (some ⟨bl, 0, none⟩), .pointer (some ⟨bu, 0, none⟩), .pointer (some ⟨bn, 0, none⟩), .pointer (some ⟨bv, 0, none⟩), .pointer (some ⟨bg, 0, none⟩)] W3 (layPost N base bl bu bn bv bg n un (.slice (some ad) L.length cv) (.slice (some ⟨gt, 0, none⟩) h ct) res W3)) := by
        have := HIH.out W3 (.slice (some ⟨gt, 0, none⟩) h ct) (tk'.set lane true) (laneAt L' r a lane) (useAt (useAt u' m.f0 lane 1) m.f1 lane 1) r (a + 1) HS3.out HT3.out (by rw [List.length_set]; exact hTK.out) (by rw [shape_laneAt]; exact hSH.out)
         (by rw [shape_length (show shape (laneAt L' r a lane) = shape L by rw [shape_laneAt]; exact hSH.out.trans HSH.out.symm)]; omega) (by omega) (fun _ => by rw [shape_rowlen (show shape (laneAt L' r a lane) = shape L by rw [shape_laneAt]; exact hSH.out.trans HSH.out.symm), HLEN2.out]; omega)
         (fun e => by rw [shape_length (show shape (laneAt L' r a lane) = shape L by rw [shape_laneAt]; exact hSH.out.trans HSH.out.symm)] at e; omega) HND.out
        rw [hres] at this
        rw [show ((a + 1 : Nat) : Int) = (a : Int) + 1 from by simp] at this
        exact this
       have g3 : W3.cell? ⟨bg, 0, none⟩ = some (GV bl bu bn bv bg) := (blk_cell HS3.out.hg 0).trans rfl
       clear hus hres hstep d0 d1
       cases hr1 : res.1 with
       | true =>
        have HR1 := Lib.hid hr1
        clear hr1
        go_wp2_with (go_at_call 97; (with_reducible refine Calls.mono HCT.out ?_); intro e W4 hpost; have HP := Aside0.mk hpost; obtain ⟨rfl, _⟩ := hpost; rw [HR1.out])
        (try rw [Exit.noGoto_ret])
        refine bodyPost_ret (v := .bool true) (by simp [results, Try.results97, go_sem]) rfl ?_
        obtain ⟨_, p2, p3, p4, p5, p6⟩ := HP.out
        have e2 : giveF n un h (k + 1) r a tk L u = res := by rw [hX.out, HSTEP.out, if_pos HR1.out]
        rw [e2]
        exact ⟨by rw [HR1.out], p2, p3, fun k k1 k2 k3 k4 => (p4 k k1 (Nat.lt_of_lt_of_le k2 HB3.out.size) k3 k4).trans (HF3.out k k1 k2 k3 (fun e => k4 (by rw [e]; rfl))), HB3.out.trans p5, fun g hg => (p6 g hg).trans (by injection hg with hg; subst hg; exact HO3.out)⟩
       | false =>
        have HR1 := Lib.hid hr1
        clear hr1
        go_upto_region 13 with fail
        go_wp2_with (first | (go_at_call 97; (with_reducible refine Calls.mono HCT.out ?_); intro e W4 hpost; have HP := Aside0.mk hpost; obtain ⟨rfl, q2, q3, q4, q5, q6⟩ := hpost; rw [HR1.out]; have HS4 := Aside0.mk q2; have HT4 : Aside0 (TkAt W4 N (.slice (some ⟨gt, 0, none⟩) h ct) res.2.2.2) := ⟨q3⟩; have HF4 : Aside0 (∀ k, N ≤ k → k < w.heap.size → k ≠ bu → k ≠ gt → W4.heap[k]? = w.heap[k]?) := ⟨fun k k1 k2 k3 k4 => (q4 k k1 (Nat.lt_of_lt_of_le k2 HB3.out.size) k3 (fun e => k4 (by injection e))).trans (HF3.out k k1 k2 k3 k4)⟩; have HB4 : Aside0 (Below base w W4) := ⟨HB3.out.trans q5⟩; have HO4 : Aside0 (W4.heap[ad.block]? = w.heap[ad.block]?) := ⟨(q6 ad.block rfl).trans HO3.out⟩; obtain ⟨t4, t4f⟩ := Kd.R_celln false HT4.out (lane : Int) (by omega) (by omega); rw [Int.toNat_natCast] at t4 t4f; clear q2 q3 q4 q5 q6))
        have hsr : shape res.2.1 = shape L := HSHR.out.trans HSH.out.symm
        obtain ⟨g', cr2, p0, _, _, _, c0, c1, _, _, _⟩ := lane_place HS4.out.hS r a (by rw [shape_length hsr]; exact hrl) (by rw [shape_rowlen hsr, HLEN2.out]; exact hal)
        have hadb : (ad.add r).block = ad.block := by unfold Addr.add; split <;> rfl
        rw [World.cell?_of_block (w := w) (w' := W4) (a := ad.add r) (by rw [hadb]; exact HO4.out), q0] at p0
        simp only [Option.some.injEq, Value.slice.injEq, Addr.mk.injEq, and_true] at p0
        obtain ⟨rfl, hx1, hx2⟩ := p0
        clear hx1 hx2
        obtain ⟨mm0, mm1⟩ := shape_match hsr r a
        rw [mm0, HM.out] at c0
        rw [mm1, HM.out] at c1
        clear mm0 mm1 hadb hsr
        obtain ⟨W5, hW5⟩ : ∃ W, W = (W4.setCell ⟨gt, lane, none⟩ (.bool false)) := ⟨_, rfl⟩
        rw [← hW5]
        have HS5 : Aside0 (LayW W5 N base bl bu bn bv bg n un (.slice (some ad) L.length cv) res.2.1 res.2.2.1) := ⟨by rw [hW5]; exact HS4.out.grown (grownBy_at _ gt lane (.bool false)) HTN.out gtl gtb gtn gtv gtg⟩
        have HT5 : Aside0 (TkAt W5 N (.slice (some ⟨gt, 0, none⟩) h ct) (res.2.2.2.set lane false)) := ⟨by
         have h2 := Kd.R_putn HT4.out (lane : Int) false
         rw [Int.toNat_natCast] at h2
         rw [hW5]
         exact h2⟩
        have HF5 : Aside0 (∀ k, N ≤ k → k < w.heap.size → k ≠ bu → k ≠ gt → W5.heap[k]? = w.heap[k]?) := ⟨fun k k1 k2 k3 k4 => by
         rw [hW5]
         exact (Below.heap_setCell W4 ⟨gt, lane, none⟩ _ k k4).trans (HF4.out k k1 k2 k3 k4)⟩
        have HB5 : Aside0 (Below base w W5) := ⟨by rw [hW5]; exact below_store HB4.out gt _ (Nat.le_trans HN.out.hb HTN.out) _⟩
        have HO5 : Aside0 (W5.heap[ad.block]? = w.heap[ad.block]?) := ⟨by
         rw [hW5]
         exact (Below.heap_setCell W4 ⟨gt, lane, none⟩ _ ad.block (by have := HADN.out; have := HTN.out; show ad.block ≠ gt; omega)).trans HO4.out⟩
        have d0 : W5.cell? ⟨g, a * 3, none⟩ = some (.int .i64 m.f0) := by
         rw [hW5]
         exact (World.cell?_of_block (a := ⟨g, a * 3, none⟩) (Below.heap_setCell W4 ⟨gt, lane, none⟩ _ g gg)).trans c0
        have d1 : W5.cell? ⟨g, a * 3 + 1, none⟩ = some (.int .i64 m.f1) := by
         rw [hW5]
         exact (World.cell?_of_block (a := ⟨g, a * 3 + 1, none⟩) (Below.heap_setCell W4 ⟨gt, lane, none⟩ _ g gg)).trans c1
        clear c0 c1 hW5 t4 t4f g3
        have ua := HS5.out.hu.cell (m.f0.toNat * 3 + lane) (by rw [HS5.out.ul]; omega)
        have uaf := HS5.out.hu.frozen (m.f0.toNat * 3 + lane)
        go_still_tail 11, (by kernel_rfl)
        change wpList _ _ _ _ _ W5.drew
        have ua2 : W5.drew.cell? ⟨bu, m.f0.toNat * 3 + lane, none⟩ = some (.int .i64 ((res.2.2.1).getD (m.f0.toNat * 3 + lane) 0)) := ua
        have uaf2 : W5.drew.frozen? ⟨bu, m.f0.toNat * 3 + lane, none⟩ = false := uaf
        clear ua uaf
        have e0 : W5.drew.cell? ⟨g, a * 3, none⟩ = _ := d0
        have e1 : W5.drew.cell? ⟨g, a * 3 + 1, none⟩ = _ := d1
        clear d0 d1
        go_wp2_with fail
        clear ua2 uaf2
        obtain ⟨W6, hW6⟩ : ∃ W, W = (W5.setCell ⟨bu, m.f0.toNat * 3 + lane, none⟩ (.int .i64 (wrap64 ((res.2.2.1)[m.f0.toNat * 3 + lane]?.getD 0 - 1)))).drew := ⟨_, rfl⟩
        rw [← hW6]
        have HS6 : Aside0 (LayW W6 N base bl bu bn bv bg n un (.slice (some ad) L.length cv) (res.2.1) (useAt (res.2.2.1) m.f0 lane (-1))) := ⟨by
         have h1 := HS5.out.setU HN.out (m.f0.toNat * 3 + lane) (wrap64 ((res.2.2.1)[m.f0.toNat * 3 + lane]?.getD 0 - 1))
         rw [hW6]
         unfold useAt
         rw [List.getD_eq_getElem?_getD, Int.toNat_natCast]
         exact h1.below (below_drew1 (Below.refl _ _))⟩
        have HT6 : Aside0 (TkAt W6 N (.slice (some ⟨gt, 0, none⟩) h ct) _) := ⟨HT5.out.same (fun k hk => by
         injection hk with hk
         subst hk
         rw [hW6]
         exact Below.heap_setCell W5 ⟨bu, _, none⟩ _ gt gtb)⟩
        have HF6 : Aside0 (∀ k, N ≤ k → k < w.heap.size → k ≠ bu → k ≠ gt → W6.heap[k]? = w.heap[k]?) := ⟨fun k k1 k2 k3 k4 => by
         rw [hW6]
         exact (Below.heap_setCell W5 ⟨bu, _, none⟩ _ k k3).trans (HF5.out k k1 k2 k3 k4)⟩
        have HB6 : Aside0 (Below base w W6) := ⟨by rw [hW6]; exact below_drew1 (below_store HB5.out bu _ (Nat.le_trans HN.out.hb HN.out.nu) _)⟩
        have HO6 : Aside0 (W6.heap[ad.block]? = w.heap[ad.block]?) := ⟨by
         rw [hW6]
         exact (Below.heap_setCell W5 ⟨bu, _, none⟩ _ ad.block (by have := HADN.out; have := HN.out.nu; show ad.block ≠ bu; omega)).trans HO5.out⟩
        have d0 : W6.cell? ⟨g, a * 3, none⟩ = some (.int .i64 m.f0) := by
         rw [hW6]
         exact (World.cell?_of_block (a := ⟨g, a * 3, none⟩) (Below.heap_setCell W5 ⟨bu, _, none⟩ _ g gu)).trans e0
        have d1 : W6.cell? ⟨g, a * 3 + 1, none⟩ = some (.int .i64 m.f1) := by
         rw [hW6]
         exact (World.cell?_of_block (a := ⟨g, a * 3 + 1, none⟩) (Below.heap_setCell W5 ⟨bu, _, none⟩ _ g gu)).trans e1
        clear e0 e1 hW6
        have ua := HS6.out.hu.cell (m.f1.toNat * 3 + lane) (by rw [HS6.out.ul]; omega)
        have uaf := HS6.out.hu.frozen (m.f1.toNat * 3 + lane)
        go_still_tail 11, (by kernel_rfl)
        change wpList _ _ _ _ _ W6.drew
        have ua2 : W6.drew.cell? ⟨bu, m.f1.toNat * 3 + lane, none⟩ = some (.int .i64 ((useAt res.2.2.1 m.f0 lane (-1)).getD (m.f1.toNat * 3 + lane) 0)) := ua
        have uaf2 : W6.drew.frozen? ⟨bu, m.f1.toNat * 3 + lane, none⟩ = false := uaf
        clear ua uaf
        have e0 : W6.drew.cell? ⟨g, a * 3, none⟩ = _ := d0
        have e1 : W6.drew.cell? ⟨g, a * 3 + 1, none⟩ = _ := d1
        clear d0 d1
        go_upto_region 18 with fail
        clear ua2 uaf2
        obtain ⟨W7, hW7⟩ : ∃ W, W = (W6.setCell ⟨bu, m.f1.toNat * 3 + lane, none⟩ (.int .i64 (wrap64 ((useAt res.2.2.1 m.f0 lane (-1))[m.f1.toNat * 3 + lane]?.getD 0 - 1)))).drew := ⟨_, rfl⟩
        rw [← hW7]
        have HS7 : Aside0 (LayW W7 N base bl bu bn bv bg n un (.slice (some ad) L.length cv) (res.2.1) (useAt (useAt res.2.2.1 m.f0 lane (-1)) m.f1 lane (-1))) := ⟨by
         have h1 := HS6.out.setU HN.out (m.f1.toNat * 3 + lane) (wrap64 ((useAt res.2.2.1 m.f0 lane (-1))[m.f1.toNat * 3 + lane]?.getD 0 - 1))
         rw [hW7]
         unfold useAt
         rw [List.getD_eq_getElem?_getD, Int.toNat_natCast]
         exact h1.below (below_drew1 (Below.refl _ _))⟩
        have HT7 : Aside0 (TkAt W7 N (.slice (some ⟨gt, 0, none⟩) h ct) _) := ⟨HT6.out.same (fun k hk => by
         injection hk with hk
         subst hk
         rw [hW7]
         exact Below.heap_setCell W6 ⟨bu, _, none⟩ _ gt gtb)⟩
        have HF7 : Aside0 (∀ k, N ≤ k → k < w.heap.size → k ≠ bu → k ≠ gt → W7.heap[k]? = w.heap[k]?) := ⟨fun k k1 k2 k3 k4 => by
         rw [hW7]
         exact (Below.heap_setCell W6 ⟨bu, _, none⟩ _ k k3).trans (HF6.out k k1 k2 k3 k4)⟩
        have HB7 : Aside0 (Below base w W7) := ⟨by rw [hW7]; exact below_drew1 (below_store HB6.out bu _ (Nat.le_trans HN.out.hb HN.out.nu) _)⟩
        have HO7 : Aside0 (W7.heap[ad.block]? = w.heap[ad.block]?) := ⟨by
         rw [hW7]
         exact (Below.heap_setCell W6 ⟨bu, _, none⟩ _ ad.block (by have := HADN.out; have := HN.out.nu; show ad.block ≠ bu; omega)).trans HO6.out⟩
        have d0 : W7.cell? ⟨g, a * 3, none⟩ = some (.int .i64 m.f0) := by
         rw [hW7]
         exact (World.cell?_of_block (a := ⟨g, a * 3, none⟩) (Below.heap_setCell W6 ⟨bu, _, none⟩ _ g gu)).trans e0
        have d1 : W7.cell? ⟨g, a * 3 + 1, none⟩ = some (.int .i64 m.f1) := by
         rw [hW7]
         exact (World.cell?_of_block (a := ⟨g, a * 3 + 1, none⟩) (Below.heap_setCell W6 ⟨bu, _, none⟩ _ g gu)).trans e1
        clear e0 e1 hW7
        clear d0 d1
        go_wp2
        go_roundw
        case rel => exact ⟨lane + 1, res.2.2.2.set lane false, res.2.1, _, by simp, by omega, ⟨by rw [hX.out, HSTEP.out, if_neg (by rw [HR1.out]; decide)]⟩, ⟨HSHR.out⟩, ⟨by rw [List.length_set]; exact HTKR.out⟩, HS7, HT7, HF7, HB7, HO7⟩
        case measure => simp [intOf]; omega
     ·
      obtain rfl : lane = h := by omega
      have e2 : giveF n un lane (k + 1) r a tk L u = (false, L', u', tk') := by rw [hX.out, Nat.sub_self]; rfl
      have HE2 := Lib.hid e2
      clear e2
      go_wp2
      (try rw [Exit.noGoto_ret])
      refine bodyPost_ret (v := .bool false) (by simp [results, Try.results97, go_sem]) rfl ?_
      rw [HE2.out]
      exact ⟨rfl, hW.out, hT.out, fun k k1 k2 k3 k4 => hF.out k k1 k2 k3 (fun e => k4 (by rw [e]; rfl)), hB.out, fun g hg => by injection hg with hg; subst hg; exact hO.out⟩
end Go.Proofs.Ytmnamkcjldaoeaa.PAll
namespace Go.Proofs.Ytmnamkcjldaoeaa.PAll
open Go.RowKit Go.Proofs.YtmnamkcjldaoeaaW.PrintWords Go.Proofs.YtmnamkcjldaoeaaW.PrintLast Go.Proofs.YtmnamkcjldaoeaaW.PrintMore
set_option linter.unusedVariables false
set_option linter.unusedSimpArgs false
def okShape (sh : List (List (Int × Int))) : Bool := decide (sh.length ≤ 100) && sh.all fun l => decide (l.length ≤ 100) && l.all fun p => decide (0 ≤ p.1) && decide (p.1 < 6) && decide (0 ≤ p.2) && decide (p.2 < 6) && decide (p.1 ≠ p.2)
def hallsN (n : Int) : Nat := n.toNat / 2
def layF (n un : Int) (L : List (List S57)) : Res := giveF n un (hallsN n) (needF (shape L) 0 0) 0 0 (List.replicate (hallsN n) false) L (List.replicate 18 0)
theorem halls_eq (n : Int) (n2 : 2 ≤ n) (n6 : n ≤ 6) : wrap64 (Int.tdiv n 2) = hallsN n ∧ 1 ≤ hallsN n ∧ hallsN n ≤ 3 := by
 have : n = 2 ∨ n = 3 ∨ n = 4 ∨ n = 5 ∨ n = 6 := by omega
 rcases this with rfl | rfl | rfl | rfl | rfl <;> exact ⟨by unfold wrap64; decide, by decide, by decide⟩
abbrev zero18 : Array Value := #[.int .i64 0, .int .i64 0, .int .i64 0, .int .i64 0, .int .i64 0, .int .i64 0, .int .i64 0, .int .i64 0, .int .i64 0, .int .i64 0, .int .i64 0, .int .i64 0, .int .i64 0, .int .i64 0, .int .i64 0, .int .i64 0, .int .i64 0, .int .i64 0]
def layWorld (w : World) (n un : Int) (v : Value) : World :=
 (((((w.alloc (.cells #[.int .i64 n] 3)).alloc (.cells #[v] 47)).alloc (.cells #[.int .i64 un] 3)).alloc (.cells zero18 110)).alloc (.cells #[GV (w.heap.size + 1) (w.heap.size + 1 + 1 + 1) w.heap.size (w.heap.size + 1 + 1) (w.heap.size + 1 + 1 + 1 + 1)] 132))
theorem layWorld_below (w : World) (n un : Int) (v : Value) : Below w.heap.size w (layWorld w n un v) := below_alloc (below_alloc (below_alloc (below_alloc (below_alloc (Below.refl _ _) _) _) _) _) _
theorem layWorld_ok {w : World} {n un : Int} {v : Value} {base : Nat} {L : List (List S57)} (hS : Kd.S (Kd.slice 57 k57) 55 w base (fun k => k < w.heap.size) v L) :
  LayW (layWorld w n un v) w.heap.size base (w.heap.size + 1) (w.heap.size + 1 + 1 + 1) w.heap.size (w.heap.size + 1 + 1) (w.heap.size + 1 + 1 + 1 + 1) n un v L (List.replicate 18 0) := by
 refine ⟨Kd.S_below hS (layWorld_below w n un v), ?_, List.length_replicate, ?_, ?_, ?_, ?_⟩
 ·
  refine blk_alloc ?_ _
  have := blk_new (((w.alloc (.cells #[.int .i64 n] 3)).alloc (.cells #[v] 47)).alloc (.cells #[.int .i64 un] 3)) (.cells zero18 110)
  rw [show (((w.alloc (.cells #[.int .i64 n] 3)).alloc (.cells #[v] 47)).alloc (.cells #[.int .i64 un] 3)).heap.size = w.heap.size + 1 + 1 + 1 from by simp] at this
  exact this
 ·
  refine blk_alloc (blk_alloc (blk_alloc ?_ _) _) _
  have := blk_new (w.alloc (.cells #[.int .i64 n] 3)) (.cells #[v] 47)
  rw [show (w.alloc (.cells #[.int .i64 n] 3)).heap.size = w.heap.size + 1 from by simp] at this
  exact this
 ·
  exact blk_alloc (blk_alloc (blk_alloc (blk_alloc (blk_new _ _) _) _) _) _
 ·
  refine blk_alloc (blk_alloc ?_ _) _
  have := blk_new ((w.alloc (.cells #[.int .i64 n] 3)).alloc (.cells #[v] 47)) (.cells #[.int .i64 un] 3)
  rw [show ((w.alloc (.cells #[.int .i64 n] 3)).alloc (.cells #[v] 47)).heap.size = w.heap.size + 1 + 1 from by simp] at this
  exact this
 ·
  have := blk_new ((((w.alloc (.cells #[.int .i64 n] 3)).alloc (.cells #[v] 47)).alloc (.cells #[.int .i64 un] 3)).alloc (.cells zero18 110)) (.cells #[GV (w.heap.size + 1) (w.heap.size + 1 + 1 + 1) w.heap.size (w.heap.size + 1 + 1) (w.heap.size + 1 + 1 + 1 + 1)] 132)
  rw [show ((((w.alloc (.cells #[.int .i64 n] 3)).alloc (.cells #[v] 47)).alloc (.cells #[.int .i64 un] 3)).alloc (.cells zero18 110)).heap.size = w.heap.size + 1 + 1 + 1 + 1 from by simp] at this
  exact this
set_option maxRecDepth 100000 in
set_option maxHeartbeats 4000000 in
theorem lay_calls (n un : Int) (n2 : 2 ≤ n) (n6 : n ≤ 6) (base : Nat) (v : Value) (L : List (List S57)) (hsh : okShape (shape L) = true) (w : World) (hbase : base ≤ w.heap.size) (hS : Kd.S (Kd.slice 57 k57) 55 w base (fun k => k < w.heap.size) v L) :
  Calls Try.prog 65 #[.int .i64 n, v, .int .i64 un] w fun e w' => e = .returned (.bool (layF n un L).1) ∧ Kd.S (Kd.slice 57 k57) 55 w' base (fun k => k < w'.heap.size) v (layF n un L).2.1 ∧ Below base w w' := by
 obtain ⟨hh, h1, h3⟩ := halls_eq n n2 n6
 unfold layF
 obtain ⟨Av, cv, rfl⟩ := Kd.S_slice hS
 obtain ⟨h, hhd⟩ : ∃ h, hallsN n = h := ⟨_, rfl⟩
 rw [hhd] at hh h1 h3 ⊢
 have hsz : (shape L).length ≤ 100 ∧ ∀ l ∈ shape L, l.length ≤ 100 := by
  unfold okShape at hsh
  simp only [Bool.and_eq_true, decide_eq_true_eq, List.all_eq_true] at hsh
  exact ⟨hsh.1, fun l hl => (hsh.2 l hl).1⟩
 have hval : ∀ l ∈ shape L, ∀ p ∈ l, 0 ≤ p.1 ∧ p.1 < 6 ∧ 0 ≤ p.2 ∧ p.2 < 6 ∧ p.1 ≠ p.2 := by
  unfold okShape at hsh
  simp only [Bool.and_eq_true, decide_eq_true_eq, List.all_eq_true] at hsh
  intro l hl p hp
  obtain ⟨⟨⟨⟨a, b⟩, c⟩, d⟩, e⟩ := (hsh.2 l hl).2 p hp
  exact ⟨a, b, c, d, e⟩
 obtain ⟨res, hres⟩ : ∃ res, giveF n un h (needF (shape L) 0 0) 0 0 (List.replicate h false) L (List.replicate 18 0) = res := ⟨_, rfl⟩
 have hN : LayN w.heap.size base (w.heap.size + 1) (w.heap.size + 1 + 1 + 1) w.heap.size (w.heap.size + 1 + 1) (w.heap.size + 1 + 1 + 1 + 1) := ⟨hbase, ⟨by omega, by omega⟩, by omega, ⟨by omega, by omega⟩, ⟨by omega, by omega⟩, ⟨by omega, by omega⟩⟩
 have HGC := Lib.hid (give_calls w.heap.size base (w.heap.size + 1) (w.heap.size + 1 + 1 + 1) w.heap.size (w.heap.size + 1 + 1) (w.heap.size + 1 + 1 + 1 + 1) hN n un h hh h1 h3 n2 n6 (.slice Av L.length cv) (shape L) hsz hval (needF (shape L) 0 0))
 have HH := Lib.hid hh
 have HRES := Lib.hid hres
 have HS := Aside0.mk hS
 have HBA := Aside0.mk hbase
 rw [hres]
 clear hsz hval hres hh hS hsh hN hbase
 go_enter Try.func65, Try.ntmps65
 go_upto_region 4 with fail
 obtain ⟨W0, hW0⟩ : ∃ W, W = layWorld w n un (.slice Av L.length cv) := ⟨_, rfl⟩
 change Code.wp _ _ _ _ (layWorld w n un (.slice Av L.length cv))
 have HW : Aside0 (LayW W0 w.heap.size base (w.heap.size + 1) (w.heap.size + 1 + 1 + 1) w.heap.size (w.heap.size + 1 + 1) (w.heap.size + 1 + 1 + 1 + 1) n un (.slice Av L.length cv) L (List.replicate 18 0)) := ⟨by rw [hW0]; exact layWorld_ok HS.out⟩
 have HB0 : Aside0 (Below w.heap.size w W0) := ⟨by rw [hW0]; exact layWorld_below _ _ _ _⟩
 rw [← hW0]
 clear hW0
 have n0 : W0.cell? ⟨w.heap.size, 0, none⟩ = some (.int .i64 n) := (blk_cell HW.out.hn 0).trans rfl
 have g0 : W0.cell? ⟨w.heap.size + 1 + 1 + 1 + 1, 0, none⟩ = some (GV (w.heap.size + 1) (w.heap.size + 1 + 1 + 1) w.heap.size (w.heap.size + 1 + 1) (w.heap.size + 1 + 1 + 1 + 1)) := (blk_cell HW.out.hg 0).trans rfl
 refine start_ (n := 6) (S := fun w' => w'.cell? ⟨w.heap.size, 0, none⟩ = some (.int .i64 n) ∧ w'.cell? ⟨w.heap.size + 1 + 1 + 1 + 1, 0, none⟩ = some (GV (w.heap.size + 1) (w.heap.size + 1 + 1 + 1) w.heap.size (w.heap.size + 1 + 1) (w.heap.size + 1 + 1 + 1 + 1))) (ds := [4]) #[false, false, false, false, false, false] (by kernel_rfl) rfl rfl ⟨n0, g0⟩ (fun hHeld => ?_)
 refine take_ (i := 0) (N := some 10) (v := ?_) (a' := ?_) #[true, false, false, false, false, false] rfl rfl (by kernel_rfl) (fun _ _ _ h => h) (Or.inl ⟨by rfl, ?_⟩) hHeld ?_ ?_
 rotate_left
 ·
  rintro w' ⟨s0, s1⟩
  go_simp
  with_reducible rfl
 rotate_left
 ·
  simp only [Act.put, List.setIfInBounds_toArray, List.set_cons_zero, List.set_cons_succ, i64_w, i32_w]
  rfl
 refine take_ (i := 1) (N := some 11) (v := ?_) (a' := ?_) #[true, true, false, false, false, false] rfl rfl (by kernel_rfl) (fun _ _ _ h => h) (Or.inl ⟨by rfl, ?_⟩) hHeld ?_ ?_
 rotate_left
 ·
  rintro w' ⟨s0, s1⟩
  go_simp
  with_reducible rfl
 rotate_left
 ·
  simp only [Act.put, List.setIfInBounds_toArray, List.set_cons_zero, List.set_cons_succ, i64_w, i32_w]
  rfl
 refine one_ (i := 2) (N := some 12) #[true, true, true, false, false, false] rfl rfl (by kernel_rfl) (by decide) (fun K hK => ?_)
 refine goes_ Try.func99 (by kernel_rfl) rfl #[.int .i64 n] (by rfl) rfl rfl (by simp only [List.map_toArray, List.map_cons, List.map_nil]; rfl) ?_
 with_reducible refine (halls_calls n h HH.out _).mono ?_
 rintro e w4 ⟨rfl, hd4⟩
 refine ⟨_, rfl, ?_⟩
 have hb4 := hd4.below
 have HB4 := Aside0.mk hb4
 have q1 := (hb4.cell (World.block_lt_of_cell? _ _ hHeld.1)).trans hHeld.1
 have q2 := (hb4.cell (World.block_lt_of_cell? _ _ hHeld.2)).trans hHeld.2
 clear hb4 hd4
 refine hK.out _ _ ⟨q1, q2⟩ (fun hHeld => ?_)
 clear hK K
 refine norm_ (a' := ?_) ?_ ?_
 rotate_left
 ·
  show Act.put _ (some 12) _ = _
  simp only [Act.put, List.setIfInBounds_toArray, List.set_cons_zero, List.set_cons_succ, i64_w, i32_w]
  rfl
 refine one_ (i := 3) (N := some 13) #[true, true, true, true, false, false] rfl rfl (by kernel_rfl) (by decide) (fun K hK => ?_)
 refine Kd.R_make_step Kd.bool (w0 := w4) (W := w4) w.heap.size 4 (by rfl) (N := 13) rfl 133 (.tmp 12) (.tmp 12) rfl (h : Int) rfl rfl Try.underlying133 (.bool false) 1 info4 rfl (by decide) (by decide) false (ok := fun _ => True) (okp := fun _ => True) rfl (fun _ hk => hk) trivial (by omega) (by omega) (Below.refl _ _) (by have h1 := HB0.out.size; have h4 := HB4.out.size; simp at h4; omega) ?_
 intro v1 w5 ho5 _ hg5 hf5
 rw [Int.toNat_natCast] at ho5
 have HT5 : Aside0 (TkAt w5 w.heap.size v1 (List.replicate h false)) := ⟨ho5⟩
 have hb5 := grown_none hg5
 have HB5 := Aside0.mk hb5
 have q1 := (hb5.cell (World.block_lt_of_cell? _ _ hHeld.1)).trans hHeld.1
 have q2 := (hb5.cell (World.block_lt_of_cell? _ _ hHeld.2)).trans hHeld.2
 clear hb5 ho5 hg5 hf5
 refine hK.out _ _ ⟨q1, q2⟩ (fun hHeld => ?_)
 clear hK K
 refine norm_ (a' := ?_) ?_ ?_
 rotate_left
 ·
  show Act.put _ (some 13) _ = _
  simp only [Act.put, List.setIfInBounds_toArray, List.set_cons_zero, List.set_cons_succ, i64_w, i32_w]
  rfl
 refine last_ (i := 4) (N := some 14) #[true, true, true, true, true, false] rfl rfl (by kernel_rfl) (by decide) (fun K hK => ?_)
 refine goesF_ (f := 97) Try.func97 (by kernel_rfl) rfl #[] #[.pointer (some ⟨w.heap.size + 1, 0, none⟩), .pointer (some ⟨w.heap.size + 1 + 1 + 1, 0, none⟩), .pointer (some ⟨w.heap.size, 0, none⟩), .pointer (some ⟨w.heap.size + 1 + 1, 0, none⟩), .pointer (some ⟨w.heap.size + 1 + 1 + 1 + 1, 0, none⟩)] #[.int .i64 0, .int .i64 0, v1] (by rfl) rfl rfl rfl (by simp only [List.map_toArray, List.map_cons, List.map_nil]; rfl) ?_
 have HBW : Aside0 (Below W0.heap.size W0 w5) := ⟨below_step (below_step (below_drew1 (Below.refl W0.heap.size W0)) HB4.out) HB5.out⟩
 have hct : Calls Try.prog 97 (#[.int .i64 0, .int .i64 0, v1] ++ #[.pointer (some ⟨w.heap.size + 1, 0, none⟩), .pointer (some ⟨w.heap.size + 1 + 1 + 1, 0, none⟩), .pointer (some ⟨w.heap.size, 0, none⟩), .pointer (some ⟨w.heap.size + 1 + 1, 0, none⟩), .pointer (some ⟨w.heap.size + 1 + 1 + 1 + 1, 0, none⟩)]) w5 (layPost w.heap.size base (w.heap.size + 1) (w.heap.size + 1 + 1 + 1) w.heap.size (w.heap.size + 1 + 1) (w.heap.size + 1 + 1 + 1 + 1) n un (.slice Av L.length cv) v1 res w5) := by
  rw [← HRES.out]
  exact HGC.out w5 v1 (List.replicate h false) L (List.replicate 18 0) 0 0 (HW.out.below HBW.out) HT5.out List.length_replicate rfl (Nat.zero_le _) (by omega) (fun _ => Nat.zero_le _) (fun _ => rfl) (Nat.le_refl _)
 refine Calls.mono hct ?_
 clear hct
 intro e w6 hpost
 have HP := Aside0.mk hpost
 obtain ⟨rfl, _⟩ := hpost
 refine ⟨_, rfl, ?_⟩
 refine hK.out _ _ ?_
 clear hK K
 refine norm_ (a' := ?_) ?_ ?_
 rotate_left
 ·
  show Act.put _ (some 14) _ = _
  simp only [Act.put, List.setIfInBounds_toArray, List.set_cons_zero, List.set_cons_succ, i64_w, i32_w]
  rfl
 refine pure_ (i := 5) (N := some 6) (v := ?_) (a' := ?_) #[true, true, true, true, true, true] rfl rfl (by kernel_rfl) (fun _ _ _ h => h) (Or.inl ⟨by rfl, ?_⟩) ?_ ?_
 rotate_left
 ·
  intro w'
  go_simp
  with_reducible rfl
 rotate_left
 ·
  simp only [Act.put, List.setIfInBounds_toArray, List.set_cons_zero, List.set_cons_succ, i64_w, i32_w]
  rfl
 refine done_ (by kernel_rfl) ?_
 go_wp2
 refine bodyPost_ret (v := .bool res.1) (by simp [results, Try.results65, go_sem]) rfl ?_
 obtain ⟨_, p2, _, _, p5, _⟩ := HP.out
 have hz : w.heap.size ≤ w6.heap.size := by have h1 := HB0.out.size; have h2 := HBW.out.size; have h3 := p5.size; omega
 exact ⟨rfl, Kd.S_mono p2.hS (fun k hk => Nat.lt_of_lt_of_le hk hz), (HB0.out.mono HBA.out).trans ((HBW.out.mono (by have := HB0.out.size; have := HBA.out; omega)).trans p5)⟩
def buildTo (n : Int) : Nat → Int → List (List S57) → Option (List (List S57))
 | 0, _, _ => none
 | k + 1, un, L => if (layF n un L).1 = true then some (layF n un L).2.1 else buildTo n k (un + 1) (layF n un L).2.1
def league_Build.f (a0 : Int) : Option (List (List S57) × Int) :=
 if teamsB a0 = true then (league_rounds.f 100 a0).bind fun L => if okShape (shape L) = true then (buildTo a0 10 0 L).bind fun r => some (r, 0) else none else some ([], 2)
theorem shape_layF (n un : Int) (L : List (List S57)) : shape (layF n un L).2.1 = shape L := shape_giveF _ _ _ _ _ _ _ _ _
set_option maxRecDepth 100000 in
set_option maxHeartbeats 4000000 in
theorem league_Build.calls (a0 : Int) (r1 : List (List (S57))) (r2 : Int) (w : World) (h : league_Build.f a0 = some (r1, r2)) :
  Calls Try.prog 29 #[.int .i64 a0] w fun e w' => ∃ v0_ : Value, e = .returned (.tuple #[v0_, .int .i64 r2]) ∧ Kd.S (Kd.slice 57 k57) 55 w' w.heap.size (fun _ => True) v0_ r1 ∧ Below w.heap.size w w' := by
 unfold league_Build.f at h
 by_cases ht : teamsB a0 = true
 ·
  rw [if_pos ht] at h
  have HT : Hid (league_teams.f a0 = some true) := by show _ = _; rw [teams_eq, ht]
  have hn : 2 ≤ a0 ∧ a0 ≤ 6 := by unfold teamsB at ht; simpa using ht
  obtain ⟨n2, n6⟩ := hn
  cases hR : league_rounds.f 100 a0 with
  | none => rw [hR] at h; cases h
  | some L =>
   rw [hR, Option.bind_some] at h
   by_cases hok : okShape (shape L) = true
   case neg => rw [if_neg hok] at h; cases h
   rw [if_pos hok] at h
   cases hB : buildTo a0 10 0 L with
   | none => rw [hB] at h; cases h
   | some rr =>
    rw [hB, Option.bind_some] at h
    obtain ⟨rfl, rfl⟩ := Prod.mk.inj (Option.some.inj h)
    have HR := Lib.hid hR
    have HOK := Lib.hid hok
    have HBT := Lib.hid hB
    clear h ht hR hok hB
    go_enter Try.func29, Try.ntmps29
    go_wp2_with (first | (go_at_call 50; (with_reducible refine (league_teams.calls a0 true _ HT.out).mono ?_); rintro e w1 ⟨rfl, hd1⟩; have HB1 := Aside0.mk hd1.below; clear hd1) | (go_at_call 64; (with_reducible refine (league_rounds.calls 100 a0 L _ HR.out).mono ?_); rintro e w2 ⟨v2, rfl, hs2, hb2⟩; obtain ⟨Av, cv, rfl⟩ := Kd.S_slice hs2; have HS2 := Aside0.mk hs2; have HB2 := Aside0.mk hb2; clear hs2 hb2))
    have HBW : Aside0 (Below w.heap.size w w2) := ⟨below_step HB1.out HB2.out⟩
    have HSW : Aside0 (Kd.S (Kd.slice 57 k57) 55 w2 w.heap.size (fun k => k < w2.heap.size) (.slice Av L.length cv) L) := ⟨Kd.S_mono (Kd.S_bound (Kd.S_lower HS2.out (by have := HB1.out.size; exact this))) (fun k hk => hk.2.2.1)⟩
    go_loopw [5] (fun v5 wr => ∃ (j : Nat) (L' : List (List S57)), v5 = .int .i64 j ∧ j ≤ 10 ∧ Aside0 (shape L' = shape L) ∧ Aside0 (buildTo a0 (10 - j) j L' = some rr) ∧ Aside0 (Kd.S (Kd.slice 57 k57) 55 wr w.heap.size (fun k => k < wr.heap.size) (.slice Av L.length cv) L') ∧ Aside0 (Below w.heap.size w wr)) (fun v _ => 10 - (intOf v).toNat)
    case atStart => exact ⟨0, L, rfl, by omega, ⟨rfl⟩, ⟨HBT.out⟩, HSW, HBW⟩
    case round =>
     obtain ⟨j, L', rfl, hj, hSH, hBT, hS, hB⟩ := hrel
     by_cases hjz : j = 10
     ·
      exfalso
      have := hBT.out
      rw [hjz, Nat.sub_self] at this
      cases this
     have e1 : 10 - j = (10 - (j + 1)) + 1 := by omega
     have hb := hBT.out
     rw [e1] at hb
     unfold buildTo at hb
     have HLC := Lib.hid (lay_calls a0 (j : Int) n2 n6 w.heap.size (.slice Av L.length cv) L' (by rw [hSH.out]; exact HOK.out) wr hB.out.size hS.out)
     obtain ⟨res, hres⟩ : ∃ res, layF a0 (j : Int) L' = res := ⟨_, rfl⟩
     have HSHR : Hid (shape res.2.1 = shape L) := by show _ = _; rw [← hres, shape_layF]; exact hSH.out
     rw [hres] at hb
     have HLC2 : Hid (Calls Try.prog 65 #[.int .i64 a0, .slice Av L.length cv, .int .i64 j] wr fun e w' => e = .returned (.bool res.1) ∧ Kd.S (Kd.slice 57 k57) 55 w' w.heap.size (fun k => k < w'.heap.size) (.slice Av L.length cv) res.2.1 ∧ Below w.heap.size wr w') := by
      have := HLC.out
      rw [hres] at this
      exact this
     clear HLC hres e1
     cases hr1 : res.1 with
     | true =>
      rw [hr1, if_pos rfl] at hb
      have HE := Lib.hid (Option.some.inj hb)
      rw [hr1] at HLC2
      clear hb hr1
      go_wp2_with (go_at_call 65; (with_reducible refine Calls.mono HLC2.out ?_); rintro e w5 ⟨rfl, q1, q2⟩; have HQ1 := Aside0.mk q1; have HQ2 := Aside0.mk q2; clear q1 q2)
      go_ret2
      exact ⟨_, rfl, by rw [← HE.out]; exact Kd.S_mono HQ1.out (fun _ _ => trivial), hB.out.trans HQ2.out⟩
     | false =>
      rw [hr1, if_neg (by decide)] at hb
      have HE := Lib.hid hb
      rw [hr1] at HLC2
      clear hb hr1
      go_wp2_with (go_at_call 65; (with_reducible refine Calls.mono HLC2.out ?_); rintro e w5 ⟨rfl, q1, q2⟩; have HQ1 := Aside0.mk q1; have HQ2 := Aside0.mk q2; clear q1 q2)
      go_roundw
      case rel => exact ⟨j + 1, res.2.1, by simp, by omega, ⟨HSHR.out⟩, ⟨HE.out⟩, HQ1, ⟨hB.out.trans HQ2.out⟩⟩
      case measure => simp [intOf]; omega
 ·
  rw [if_neg ht] at h
  obtain ⟨rfl, rfl⟩ := Prod.mk.inj (Option.some.inj h)
  have HT : Hid (league_teams.f a0 = some false) := by show _ = _; rw [teams_eq]; simp at ht; rw [ht]
  clear h ht
  go_enter Try.func29, Try.ntmps29
  go_wp2_with (go_at_call 50; (with_reducible refine (league_teams.calls a0 false _ HT.out).mono ?_); rintro e w1 ⟨rfl, hd1⟩; have HB1 := Aside0.mk hd1.below; clear hd1)
  go_ret2
  exact ⟨_, rfl, Kd.S_nil _ _ _ _ _, HB1.out⟩
end Go.Proofs.Ytmnamkcjldaoeaa.PAll
