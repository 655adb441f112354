/- Parts of the proof of leagueOrder_holds, in order: HRuled, HFrom, HReason, HSurely, HP9 -/
import Derived.Test.YtmnamkcjldaoeaaKOrder3
import Derived.Test.YtmnamkcjldaoeaaKOrder5
import Derived.Test.YtmnamkcjldaoeaaKOrder6
import Derived.Test.YtmnamkcjldaoeaaKOrder10
import Derived.Test.YtmnamkcjldaoeaaKOrder12
namespace Go.Proofs.Ytmnamkcjldaoeaa.PAll
open Go.RowKit Go.Proofs.YtmnamkcjldaoeaaW.PrintWords Go.Proofs.YtmnamkcjldaoeaaW.PrintLast Go.Proofs.YtmnamkcjldaoeaaW.PrintMore
set_option linter.unusedVariables false
set_option linter.unusedSimpArgs false
def listSum (ys : List Int) (l : List Int) : Int := l.foldl (fun n t => wrap64 (n + ys.getD t.toNat 0)) 0
def bothStep (l : List Int) (n : Int) (x : S85) : Int := if (l.contains x.f0 && l.contains x.f1) = true then wrap64 (n + 2) else n
def groupSum (ys : List Int) (open_ : List S85) (l : List Int) : Int := open_.foldl (bothStep l) (listSum ys l)
def ruledF (reach : Int) (ys : List Int) (open_ : List S85) (l : List Int) : Bool := decide (0 < l.length) && decide (groupSum ys open_ l > wrap64 (reach * l.length))
theorem listSum_succ (ys l : List Int) (k : Nat) (hk : k < l.length) : listSum ys (l.take (k + 1)) = wrap64 (listSum ys (l.take k) + ys.getD (l.getD k 0).toNat 0) := by
 unfold listSum
 rw [List.take_succ_eq_append_getElem hk, List.foldl_append, List.getD_eq_getElem?_getD (l := l), List.getElem?_eq_getElem hk]
 simp only [List.foldl_cons, List.foldl_nil, Option.getD_some]
theorem both_succ (l : List Int) (o : List S85) (y : Int) (k : Nat) (hk : k < o.length) : (o.take (k + 1)).foldl (bothStep l) y = bothStep l ((o.take k).foldl (bothStep l) y) (o.getD k z85) := by
 rw [List.take_succ_eq_append_getElem hk, List.foldl_append, List.getD_eq_getElem?_getD, List.getElem?_eq_getElem hk]
 simp only [List.foldl_cons, List.foldl_nil, Option.getD_some]
theorem contains_calls (A : Option Addr) (c : Nat) (l : List Int) (v : Int) (w : World) (hr : Kd.C (Kd.int .i64) w A l.length l) (hc : l.length ≤ c) (b : Bool) (hb : l.contains v = b) :
  Calls Try.prog 75 #[.slice A l.length c, .int .i64 v] w fun e w' => e = .returned (.bool b) ∧ Below w.heap.size w w' := by
 obtain ⟨k, hk⟩ := contains_eq l v hr.2.1
 rw [hb] at hk
 exact (slices_Contains_int_int.calls k A c l v b w hr hc hk).mono fun e w' ⟨he, hd⟩ => ⟨he, hd.below⟩
set_option maxRecDepth 100000 in
set_option maxHeartbeats 4000000 in
theorem ruled_calls (b : Nat) (team reach : Int) (ys : List Int) (Ao : Option Addr) (co : Nat) (op : List S85) (g : Value) (A : Option Addr) (c : Nat) (l : List Int) (w : World)
  (ha : RaceAt w b team reach ys (.slice Ao op.length co) g) (ho : Kd.C k85 w Ao op.length op) (hr : Kd.C (Kd.int .i64) w A l.length l) (hc : l.length ≤ c) (hl : ∀ t ∈ l, 0 ≤ t ∧ t < 6) :
  Calls Try.prog 71 #[.pointer (some ⟨b, 0, none⟩), .slice A l.length c] w fun e w' => e = .returned (.bool (ruledF reach ys op l)) ∧ Below w.heap.size w w' := by
 have HA := Aside0.mk ha
 have HO := Aside0.mk ho
 have HR := Aside0.mk hr
 have HC := Aside0.mk hc
 have HL := Lib.hid hl
 have hm : l.length ≤ 9223372036854775807 := hr.2.1
 have hmo : op.length ≤ 9223372036854775807 := ho.2.1
 clear ha ho hr hc hl
 have r1 := HA.out.c1
 have r8 := HA.out.c8
 go_enter Try.func71, Try.ntmps71
 go_wp2
 go_loopw [12, 5] (fun v s wr => ∃ k : Nat, k ≤ l.length ∧ v = .int .i64 k ∧ s = .int .i64 (listSum ys (l.take k)) ∧ Aside0 (w = wr)) (fun v _ _ => l.length - (intOf v).toNat)
 case atStart => exact ⟨0, Nat.zero_le _, rfl, rfl, ⟨rfl⟩⟩
 case round =>
  obtain ⟨k, hk, rfl, rfl, hw⟩ := hrel
  obtain ⟨rfl⟩ := hw
  by_cases hlt : k < l.length
  ·
   obtain ⟨ad, e2, q0⟩ := Kd.at_int HR.out (k : Int) (by omega) (by omega)
   cases e2
   simp only [Int.toNat_natCast] at q0
   have ht : 0 ≤ rd l ↑k ∧ rd l ↑k < 6 := HL.out _ (by show l.getD k 0 ∈ l; rw [List.getD_eq_getElem?_getD, List.getElem?_eq_getElem hlt]; exact List.getElem_mem hlt)
   have HX := Lib.hid (listSum_succ ys l k hlt)
   have hx : rd l ↑k = l.getD k 0 := rfl
   obtain ⟨t, htt⟩ : ∃ t, rd l ↑k = t := ⟨_, rfl⟩
   have HT : Hid (l.getD k 0 = t) := htt
   rw [htt] at ht q0
   clear hx htt
   obtain ⟨t0, t6⟩ := ht
   have et := HA.out.cs t.toNat (by omega)
   obtain ⟨y, hy⟩ : ∃ y, ys.getD t.toNat 0 = y := ⟨_, rfl⟩
   have HY := Lib.hid hy
   rw [hy] at et
   clear hy
   go_wp2
   go_roundw
   case rel => exact ⟨k + 1, by omega, by go_num, by rw [HX.out, HT.out, HY.out], ⟨by simp⟩⟩
   case measure => simp [intOf]; omega
  ·
   obtain rfl : k = l.length := by omega
   have HT : Hid (l.take l.length = l) := List.take_length
   obtain ⟨n0, hn0⟩ : ∃ n0, listSum ys l = n0 := ⟨_, rfl⟩
   have HN := Lib.hid hn0
   rw [HT.out, hn0]
   clear hn0
   go_wp2
   go_loopw [30, 5] (fun v s wr => ∃ k : Nat, k ≤ op.length ∧ v = .int .i64 k ∧ s = .int .i64 ((op.take k).foldl (bothStep l) n0) ∧ Aside0 (Below w.heap.size w wr)) (fun v _ _ => op.length - (intOf v).toNat)
   case atStart => exact ⟨0, Nat.zero_le _, rfl, rfl, ⟨Below.refl _ _⟩⟩
   case round =>
    obtain ⟨k, hk, rfl, rfl, hB⟩ := hrel
    have hsz := below_size hB.out
    by_cases hlt : k < op.length
    ·
     obtain ⟨ag, e2, g0, g1, g2, g3, g4⟩ := at_T85 (Kd.C_below HO.out hB.out) (k : Int) (by omega) (by omega)
     cases e2
     simp only [Int.toNat_natCast] at g0 g1 g2 g3 g4
     have HX := Lib.hid (both_succ l op n0 k hlt)
     have hx : rd_T85 op ↑k = op.getD k z85 := rfl
     obtain ⟨x, hxx⟩ : ∃ x, rd_T85 op ↑k = x := ⟨_, rfl⟩
     have HX2 : Hid (op.getD k z85 = x) := hxx
     rw [hxx] at g0 g1 g2 g3 g4
     clear hx hxx
     obtain ⟨R, hR⟩ : ∃ R, (op.take k).foldl (bothStep l) n0 = R := ⟨_, rfl⟩
     have HRR := Lib.hid hR
     rw [hR]
     clear hR
     obtain ⟨b1, hb1⟩ : ∃ b1, l.contains x.f0 = b1 := ⟨_, rfl⟩
     obtain ⟨b2, hb2⟩ : ∃ b2, l.contains x.f1 = b2 := ⟨_, rfl⟩
     have HB1 := Lib.hid hb1
     have HB2 := Lib.hid hb2
     clear hb1 hb2
     have HBN := Aside0.mk (show ∀ o, Below w.heap.size w (wr.alloc o) from fun o => below_alloc hB.out o)
     have HFIN : Hid (bothStep l R x = if (b1 && b2) = true then wrap64 (R + 2) else R) := by show _ = _; unfold bothStep; rw [HB1.out, HB2.out]
     cases b1
     ·
      go_wp2_with (go_at_call 75; (with_reducible refine (contains_calls _ c l x.f0 _ ?hr HC.out false HB1.out).mono ?_); (case hr => exact Kd.C_below HR.out (HBN.out _)); rintro e w1 ⟨rfl, hb1⟩; have hbox : w1.heap[wr.heap.size]? = some (.cells #[.int .i64 x.f0, .int .i64 x.f1, .int .i64 x.f2, .int .i64 x.f3, .bool x.f4] 85 (0, 0)) := (hb1.block _ (by simp)).trans (blk_new _ _); have z1 := blk_cell hbox 1; have HB3 := Aside0.mk (below_then (HBN.out _) (by simp; omega) hb1); clear hbox hb1)
      go_roundw
      case rel => exact ⟨k + 1, by omega, by go_num, by rw [HX.out, HX2.out, HRR.out, HFIN.out]; rfl, ⟨HB3.out⟩⟩
      case measure => simp [intOf]; omega
     ·
      cases b2
      ·
       go_wp2_with (first | (go_at_call 75; (with_reducible refine (contains_calls _ c l x.f0 _ ?hr HC.out true HB1.out).mono ?_); (case hr => exact Kd.C_below HR.out (HBN.out _)); rintro e w1 ⟨rfl, hb1⟩; have hbox : w1.heap[wr.heap.size]? = some (.cells #[.int .i64 x.f0, .int .i64 x.f1, .int .i64 x.f2, .int .i64 x.f3, .bool x.f4] 85 (0, 0)) := (hb1.block _ (by simp)).trans (blk_new _ _); have z1 := blk_cell hbox 1; have HB3 := Aside0.mk (below_then (HBN.out _) (by simp; omega) hb1); clear hbox hb1) | (go_at_call 75; (with_reducible refine (contains_calls _ c l x.f1 _ ?hr HC.out false HB2.out).mono ?_); (case hr => exact Kd.C_below HR.out HB3.out); rintro e w2 ⟨rfl, hb2⟩; have HB4 := Aside0.mk (below_then HB3.out (below_size HB3.out) hb2); clear hb2))
       go_roundw
       case rel => exact ⟨k + 1, by omega, by go_num, by rw [HX.out, HX2.out, HRR.out, HFIN.out]; rfl, ⟨HB4.out⟩⟩
       case measure => simp [intOf]; omega
      ·
       go_wp2_with (first | (go_at_call 75; (with_reducible refine (contains_calls _ c l x.f0 _ ?hr HC.out true HB1.out).mono ?_); (case hr => exact Kd.C_below HR.out (HBN.out _)); rintro e w1 ⟨rfl, hb1⟩; have hbox : w1.heap[wr.heap.size]? = some (.cells #[.int .i64 x.f0, .int .i64 x.f1, .int .i64 x.f2, .int .i64 x.f3, .bool x.f4] 85 (0, 0)) := (hb1.block _ (by simp)).trans (blk_new _ _); have z1 := blk_cell hbox 1; have HB3 := Aside0.mk (below_then (HBN.out _) (by simp; omega) hb1); clear hbox hb1) | (go_at_call 75; (with_reducible refine (contains_calls _ c l x.f1 _ ?hr HC.out true HB2.out).mono ?_); (case hr => exact Kd.C_below HR.out HB3.out); rintro e w2 ⟨rfl, hb2⟩; have HB4 := Aside0.mk (below_then HB3.out (below_size HB3.out) hb2); clear hb2))
       go_roundw
       case rel => exact ⟨k + 1, by omega, by go_num, by rw [HX.out, HX2.out, HRR.out, HFIN.out]; rfl, ⟨HB4.out⟩⟩
       case measure => simp [intOf]; omega
    ·
     obtain rfl : k = op.length := by omega
     have HT2 : Hid (op.take op.length = op) := List.take_length
     obtain ⟨N, hN⟩ : ∃ N, op.foldl (bothStep l) n0 = N := ⟨_, rfl⟩
     have HNN : Hid (groupSum ys op l = N) := by show _ = _; unfold groupSum; rw [HN.out]; exact hN
     rw [HT2.out, hN]
     clear hN
     have HE : Hid (ruledF reach ys op l = (decide (0 < l.length) && decide (N > wrap64 (reach * l.length)))) := by show _ = _; unfold ruledF; rw [HNN.out]
     have q1 := (HA.out.below hB.out).c1
     by_cases hz : 0 < l.length
     ·
      have hz1 : decide ((0:Int) < (l.length : Int)) = true := decide_eq_true (by omega)
      have hz2 : decide (0 < l.length) = true := decide_eq_true hz
      have HZ2 := Lib.hid hz2
      clear hz2
      go_wp2
      refine bodyPost_ret (v := .bool (decide (N > wrap64 (reach * l.length)))) (by simp [results, Try.results71, go_sem]) rfl ⟨by rw [HE.out, HZ2.out, Bool.true_and], hB.out⟩
     ·
      have hz1 : decide ((0:Int) < (l.length : Int)) = false := decide_eq_false (by omega)
      have hz2 : decide (0 < l.length) = false := decide_eq_false hz
      have HZ2 := Lib.hid hz2
      clear hz2
      go_wp2
      refine bodyPost_ret (v := .bool false) (by simp [results, Try.results71, go_sem]) rfl ⟨by rw [HE.out, HZ2.out, Bool.false_and], hB.out⟩
end Go.Proofs.Ytmnamkcjldaoeaa.PAll
namespace Go.Proofs.Ytmnamkcjldaoeaa.PAll
open Go.RowKit Go.Proofs.YtmnamkcjldaoeaaW.PrintWords Go.Proofs.YtmnamkcjldaoeaaW.PrintLast Go.Proofs.YtmnamkcjldaoeaaW.PrintMore
set_option linter.unusedVariables false
set_option linter.unusedSimpArgs false
def LAt (w : World) (base : Nat) (v : Value) (xs : List Int) : Prop := Kd.R (Kd.int .i64) 3 w base (fun _ => True) v xs
theorem LAt.own {w : World} {B : Nat} {v : Value} {xs : List Int} (h : LAt w B v xs) : w.ownsRow B 3 1 v xs.length (encs (Value.int .i64) xs) := Kd.own_of_R h
theorem LAt.mk {w : World} {B : Nat} {v : Value} {xs : List Int} (h : w.ownsRow B 3 1 v xs.length (encs (Value.int .i64) xs)) : LAt w B v xs := Kd.R_of_own h (fun _ _ => trivial)
theorem LAt.base {w : World} {B : Nat} {v : Value} {xs : List Int} (h : LAt w B v xs) : ∀ k, v.ownBlock = some k → B ≤ k := Kd.R_base h
theorem LAt.below {w w1 : World} {B : Nat} {v : Value} {xs : List Int} (h : LAt w B v xs) (hb : Below w.heap.size w w1) : LAt w1 B v xs := Kd.R_below h hb
theorem LAt.grown {w w1 : World} {B b : Nat} {v : Value} {xs : List Int} (h : LAt w B v xs) (hg : w.grownBy w1 (some b)) (hb : b < B) : LAt w1 B v xs := by
 refine LAt.mk (h.own.kept hg ?_)
 cases hv : v.ownBlock with
 | none => exact .inl rfl
 | some k => right; intro e; injection e with e; have := h.base k hv; omega
theorem LAt.keep {w1 w2 : World} {B : Nat} {v v1 : Value} {l : List Int} {t : Int} (h1 : LAt w1 B v l) (h2 : LAt w1 B v1 (l ++ [t])) (h3 : LAt w2 B v1 (l ++ [t]))
  (hf : ∀ k, B ≤ k → k < w1.heap.size → some k ≠ v1.ownBlock → w2.heap[k]? = w1.heap[k]?) : LAt w2 B v l := by
 refine LAt.mk ?_
 obtain ⟨hl, hv⟩ := h1.own
 rcases hv with ⟨rfl, h0⟩ | ⟨g, cap, cur, rfl, hbg, hg, hnc, hcm, hcs, htake⟩
 ·
  exact ⟨hl, .inl ⟨rfl, h0⟩⟩
 ·
  by_cases hne : some g = v1.ownBlock
  ·
   obtain ⟨hl2, hv2⟩ := h2.own
   rcases hv2 with ⟨rfl, h0⟩ | ⟨g2, cap2, cur2, rfl, hbg2, hg2, hnc2, hcm2, hcs2, htake2⟩
   ·
    simp [Value.ownBlock] at hne
   simp only [Value.ownBlock, Option.some.injEq] at hne
   subst hne
   rw [hg] at hg2
   simp only [Option.some.injEq, Obj.cells.injEq, true_and, and_true] at hg2
   subst hg2
   obtain ⟨hl3, hv3⟩ := h3.own
   rcases hv3 with ⟨h0, _⟩ | ⟨g3, cap3, cur3, hv3, hbg3, hg3, hnc3, hcm3, hcs3, htake3⟩
   ·
    cases h0
   simp only [Value.slice.injEq, Option.some.injEq, Addr.mk.injEq, and_true] at hv3
   obtain ⟨rfl, _, rfl⟩ := hv3
   refine ⟨hl, .inr ⟨g, cap, cur3, rfl, hbg, hg3, hnc, hcm, by omega, ?_⟩⟩
   have : (cur3.toList.take ((l ++ [t]).length * 1)).take (l.length * 1) = cur3.toList.take (l.length * 1) := by
    rw [List.take_take, Nat.min_eq_left (by simp)]
   rw [← this, htake3]
   simp [encs]
  ·
   exact ⟨hl, .inr ⟨g, cap, cur, rfl, hbg, (hf g hbg (blk_lt hg) hne).trans hg, hnc, hcm, hcs, htake⟩⟩
theorem grown_more {W0 w w1 : World} {bo : Nat} {row : Option Nat} (h : W0.grownBy w (some bo)) (hg : w.grownBy w1 row) (hr : ∀ k, row = some k → W0.heap.size ≤ k) : W0.grownBy w1 (some bo) :=
 ⟨hg.os.trans h.os, hg.tape.trans h.tape, hg.output.trans h.output, Nat.le_trans h.size hg.size, fun k hk hne => (hg.block k (Nat.lt_of_lt_of_le hk h.size) (fun e => by have := hr k e.symm; omega)).trans (h.block k hk hne)⟩
theorem grown_below {W0 w w1 : World} {bo : Nat} (h : W0.grownBy w (some bo)) (hb : Below w.heap.size w w1) : W0.grownBy w1 (some bo) :=
 ⟨hb.os.trans h.os, hb.tape.trans h.tape, hb.output.trans h.output, Nat.le_trans h.size hb.size, fun k hk hne => (hb.block k (Nat.lt_of_lt_of_le hk h.size)).trans (h.block k hk hne)⟩
theorem grown_set {W0 w : World} {bo : Nat} (h : W0.grownBy w (some bo)) (v : Value) : W0.grownBy (w.setCell ⟨bo, 0, none⟩ v) (some bo) :=
 World.grownBy.trans h (grownBy_setCell' w bo v)
def scanF (rec : List Int → Int → Option (List Int)) (n team : Int) : Nat → List Int → Int → Option (List Int)
 | 0, _, _ => none
 | k + 1, l, t => if t ≠ team then (rec (l ++ [t]) (t + 1)).or (scanF rec n team k l (t + 1)) else scanF rec n team k l (t + 1)
def fromF (n team : Int) (P : List Int → Bool) : Nat → List Int → Int → Option (List Int)
 | 0, l, _ => if P l = true then some l else none
 | m + 1, l, next => scanF (fromF n team P m) n team (n - next).toNat l next
abbrev FV (bo br bl bt bf : Nat) : Value := .func (.func 72) #[] #[.pointer (some ⟨bo, 0, none⟩), .pointer (some ⟨br, 0, none⟩), .pointer (some ⟨bl, 0, none⟩), .pointer (some ⟨bt, 0, none⟩), .pointer (some ⟨bf, 0, none⟩)]
structure Sea (W0 : World) (bo br bl bt bf b : Nat) (n team : Int) (A : Option Addr) (c : Nat) (len : Nat) (reach : Int) (ys : List Int) (op : List S85) : Prop where
 hr : W0.heap[br]? = some (.cells #[.func (.func 71) #[.pointer (some ⟨b, 0, none⟩)] #[]] 118 (0, 0))
 hl : W0.heap[bl]? = some (.cells #[.int .i64 n, .slice A len c] 32 (0, 0))
 ht : W0.heap[bt]? = some (.cells #[.int .i64 team] 3 (0, 0))
 hf : W0.heap[bf]? = some (.cells #[.func (.func 72) #[] #[.pointer (some ⟨bo, 0, none⟩), .pointer (some ⟨br, 0, none⟩), .pointer (some ⟨bl, 0, none⟩), .pointer (some ⟨bt, 0, none⟩), .pointer (some ⟨bf, 0, none⟩)]] 119 (0, 0))
 hb : ∃ Ao co g, RaceAt W0 b team reach ys (.slice Ao op.length co) g ∧ Kd.C k85 W0 Ao op.length op ∧ (∀ ad, Ao = some ad → ad.block < W0.heap.size ∧ ad.block ≠ bo)
 nr : br ≠ bo
 nl : bl ≠ bo
 nt : bt ≠ bo
 nf : bf ≠ bo
 nb : b ≠ bo
 lo : bo < W0.heap.size
def fromPost (W0 : World) (bo : Nat) (res : Option (List Int)) (v : Value) (l : List Int) (w : World) (e : Ending) (w' : World) : Prop :=
 e = .returned (.bool res.isSome) ∧ W0.grownBy w' (some bo) ∧ (∃ ov', w'.heap[bo]? = some (.cells #[ov'] 34 (0, 0)) ∧ ∀ r, res = some r → LAt w' W0.heap.size ov' r) ∧
   LAt w' W0.heap.size v l ∧ (∀ k, W0.heap.size ≤ k → k < w.heap.size → some k ≠ v.ownBlock → w'.heap[k]? = w.heap[k]?) ∧ w.heap.size ≤ w'.heap.size
set_option maxRecDepth 100000 in
set_option maxHeartbeats 4000000 in
theorem from_calls (W0 : World) (bo br bl bt bf b : Nat) (n team : Int) (A : Option Addr) (c len : Nat) (reach : Int) (ys : List Int) (op : List S85) (S : Sea W0 bo br bl bt bf b n team A c len reach ys op)
  (n6 : n ≤ 6) (m : Nat) : ∀ (w : World) (v : Value) (l : List Int) (next : Int) (ov : Value), LAt w W0.heap.size v l → (∀ t ∈ l, 0 ≤ t ∧ t < 6) → 0 ≤ next → l.length + m ≤ 6 → W0.grownBy w (some bo) → w.heap[bo]? = some (.cells #[ov] 34 (0, 0)) →
  Calls Try.prog 72 #[v, .int .i64 next, .int .i64 m, .pointer (some ⟨bo, 0, none⟩), .pointer (some ⟨br, 0, none⟩), .pointer (some ⟨bl, 0, none⟩), .pointer (some ⟨bt, 0, none⟩), .pointer (some ⟨bf, 0, none⟩)] w (fromPost W0 bo (fromF n team (ruledF reach ys op) m l next) v l w) := by
 induction m with
 | zero =>
  intro w v l next ov hL hl hn hm hG hO
  have HL := Aside0.mk hL
  have HG := Aside0.mk hG
  have HO := Aside0.mk hO
  have HLL := Lib.hid hl
  obtain ⟨sr, sl, st, sf, sb, nr, nl, nt, nf, nb, lo⟩ := S
  obtain ⟨Al, cl, rfl⟩ := Kd.R_slice hL
  have HRD := Aside0.mk (Kd.R_reads' hL)
  have o0 := blk_cell hO 0
  have of0 := blk_frozen hO 0
  have HBR := Aside0.mk ((hG.block br (blk_lt sr) (by simpa using nr)).trans sr)
  obtain ⟨Ao, co, g, ra, rc, rn⟩ := sb
  have HA := Aside0.mk ((ra.same (hG.block b ra.lt (by simpa using nb))))
  have HC := Aside0.mk (C85_same (w1 := w) rc (fun ad e => hG.block _ (rn ad e).1 (by have := (rn ad e).2; simpa using this)))
  have HRN := Aside0.mk rn
  have HLO := Aside0.mk (show bo < w.heap.size from blk_lt hO)
  have HLR := Aside0.mk (show br < w.heap.size from blk_lt HBR.out)
  have HLB := Aside0.mk (show b < w.heap.size from HA.out.lt)
  have HGS := Aside0.mk (show W0.heap.size ≤ w.heap.size from hG.size)
  simp only [List.getElem?_toArray, List.getElem?_cons_zero] at o0
  clear sr sl st sf hL hG hO hl ra rc rn
  go_enter Try.func72, Try.ntmps72
  go_wp2_with (first | (go_at_call 62; (with_reducible refine (cloneI_calls Al cl l w HRD.out.2.2 (by omega)).mono ?_); rintro e w1 ⟨vc, rfl, hc1, hb1⟩; obtain ⟨Ac, cc, rfl⟩ := Kd.R_slice hc1; have HC1 := Aside0.mk hc1; have HB1 := Aside0.mk hb1; have ob1 : w1.cell? ⟨bo, 0, none⟩ = some ov := (hb1.cell HLO.out).trans o0; have of1 : w1.frozen? ⟨bo, 0, none⟩ = false := (World.frozen?_of_block (a := ⟨bo, 0, none⟩) (hb1.block bo HLO.out)).trans of0; have br1 : (w1.setCell ⟨bo, 0, none⟩ (.slice Ac l.length cc)).cell? ⟨br, 0, none⟩ = some (.func (.func 71) #[.pointer (some ⟨b, 0, none⟩)] #[]) := (World.cell?_of_block (a := ⟨br, 0, none⟩) (Below.heap_setCell w1 ⟨bo, 0, none⟩ (.slice Ac l.length cc) br nr)).trans ((hb1.cell HLR.out).trans (by rw [blk_cell HBR.out 0]; rfl)); clear hc1 hb1) | (go_at_call 71; (with_reducible refine (ruled_calls b team reach ys Ao co op g Al cl l _ ?ha ?ho ?hr HRD.out.2.1 HLL.out).mono ?_); (case ha => exact (HA.out.below HB1.out).same (Below.heap_setCell w1 ⟨bo, 0, none⟩ (.slice Ac l.length cc) b nb)); (case ho => exact C85_same (Kd.C_below HC.out HB1.out) (fun ad e => Below.heap_setCell w1 ⟨bo, 0, none⟩ (.slice Ac l.length cc) ad.block (HRN.out ad e).2)); (case hr => exact (Kd.R_reads' (LAt.grown (LAt.below HL.out HB1.out) (grownBy_setCell' w1 bo (.slice Ac l.length cc)) (by have := lo; omega))).2.2); rintro e w2 ⟨rfl, hb2⟩; have HB2 := Aside0.mk hb2; clear hb2))
  have HS0 := Aside0.mk (grownBy_setCell' w1 bo (.slice Ac l.length cc))
  have hX : fromF n team (ruledF reach ys op) 0 l next = if ruledF reach ys op l = true then some l else none := rfl
  have hbo1 : (w1.setCell ⟨bo, 0, none⟩ (.slice Ac l.length cc)).heap[bo]? = some (.cells #[.slice Ac l.length cc] 34 (0, 0)) := blk_set (blk_below HO.out HB1.out) 0 (.slice Ac l.length cc)
  have hgr : W0.grownBy w2 (some bo) := grown_below (grown_set (grown_below HG.out HB1.out) _) HB2.out
  refine bodyPost_ret (v := .bool (ruledF reach ys op l)) (by simp [results, Try.results72, go_sem]) rfl ⟨?_, hgr, ⟨.slice Ac l.length cc, blk_below hbo1 HB2.out, fun r e => ?_⟩, ?_, ?_, ?_⟩
  ·
   rw [hX]
   cases ruledF reach ys op l <;> rfl
  ·
   rw [hX] at e
   split at e
   ·
    obtain rfl := Option.some.inj e
    exact LAt.below (LAt.grown (Kd.R_lower HC1.out HGS.out) HS0.out lo) HB2.out
   ·
    cases e
  ·
   exact LAt.below (LAt.grown (LAt.below HL.out HB1.out) HS0.out lo) HB2.out
  ·
   intro k h1 h2 h3
   have hk1 : k < w1.heap.size := Nat.lt_of_lt_of_le h2 HB1.out.size
   have e1 : w2.heap[k]? = (w1.setCell ⟨bo, 0, none⟩ (.slice Ac l.length cc)).heap[k]? := HB2.out.block k (by simpa using hk1)
   have e2 : (w1.setCell ⟨bo, 0, none⟩ (.slice Ac l.length cc)).heap[k]? = w1.heap[k]? := Below.heap_setCell w1 ⟨bo, 0, none⟩ _ k (show k ≠ bo by omega)
   exact e1.trans (e2.trans (HB1.out.block k h2))
  ·
   have h1 := HB1.out.size
   have h2 := HB2.out.size
   simp at h2
   omega
 | succ m ih =>
  intro w v l next ov hL hl hn hm hG hO
  have HL := Aside0.mk hL
  have HG := Aside0.mk hG
  have HO := Aside0.mk hO
  have HLL := Lib.hid hl
  obtain ⟨sr, sl, st, sf, sb, nr, nl, nt, nf, nb, lo⟩ := S
  have HSR := Aside0.mk sr
  have HSL := Aside0.mk sl
  have HST := Aside0.mk st
  have HSF := Aside0.mk sf
  have z1 : ((m : Int) + 1 == 0) = false := by rw [beq_eq_false_iff_ne]; omega
  clear sr sl st sf sb hL hG hO hl
  have HIH := Lib.hid ih
  clear ih
  go_enter Try.func72, Try.ntmps72
  go_wp2
  go_loopw [12] (fun v12 wr => ∃ t : Int, v12 = .int .i64 t ∧ 0 ≤ t ∧ Aside0 (fromF n team (ruledF reach ys op) (m + 1) l next = scanF (fromF n team (ruledF reach ys op) m) n team (n - t).toNat l t) ∧ Aside0 (W0.grownBy wr (some bo)) ∧ Aside0 (∃ ov, wr.heap[bo]? = some (.cells #[ov] 34 (0, 0))) ∧ Aside0 (LAt wr W0.heap.size v l) ∧ Aside0 (∀ k, W0.heap.size ≤ k → k < w.heap.size → some k ≠ v.ownBlock → wr.heap[k]? = w.heap[k]?) ∧ Aside0 (w.heap.size ≤ wr.heap.size)) (fun v _ => (n - intOf v).toNat)
  case atStart => exact ⟨next, rfl, hn, ⟨rfl⟩, HG, ⟨_, HO.out⟩, HL, ⟨fun _ _ _ _ => rfl⟩, ⟨Nat.le_refl _⟩⟩
  case round =>
   obtain ⟨t, rfl, ht0, hX, hG, hO, hL, hF, hZ⟩ := hrel
   have bl1 : wr.heap[bl]? = _ := (hG.out.block bl (blk_lt HSL.out) (by simpa using nl)).trans HSL.out
   have bt1 : wr.heap[bt]? = _ := (hG.out.block bt (blk_lt HST.out) (by simpa using nt)).trans HST.out
   have bf1 : wr.heap[bf]? = _ := (hG.out.block bf (blk_lt HSF.out) (by simpa using nf)).trans HSF.out
   have c1 := blk_cell bl1 0
   have c2 := blk_cell bt1 0
   have c3 := blk_cell bf1 0
   simp only [List.getElem?_toArray, List.getElem?_cons_zero] at c1 c2 c3
   by_cases hlt : t < n
   ·
    have hk : (n - t).toNat = (n - (t + 1)).toNat + 1 := by omega
    have hsc : scanF (fromF n team (ruledF reach ys op) m) n team (n - t).toNat l t = if t ≠ team then (fromF n team (ruledF reach ys op) m (l ++ [t]) (t + 1)).or (scanF (fromF n team (ruledF reach ys op) m) n team (n - (t + 1)).toNat l (t + 1)) else scanF (fromF n team (ruledF reach ys op) m) n team (n - (t + 1)).toNat l (t + 1) := by rw [hk]; rfl
    have HSC := Lib.hid hsc
    clear hsc hk
    by_cases hte : t = team
    ·
     have hb : (t != team) = false := by rw [bne_eq_false_iff_eq]; exact hte
     have HTE := Lib.hid hte
     clear hte
     go_upto_region 7 with fail
     refine start_ (n := 15) (S := fun w' => w'.cell? ⟨bt, 0, none⟩ = some (.int .i64 team) ∧ w'.cell? ⟨bf, 0, none⟩ = some (FV bo br bl bt bf)) (ds := []) #[false, false, false, false, false, false, false, false, false, false, false, false, false, false, false] (by kernel_rfl) rfl rfl ⟨c2, c3⟩ (fun hHeld => ?_)
     refine pure_ (i := 0) (N := some 27) (v := ?_) (a' := ?_) #[true, false, false, false, false, false, false, false, false, false, false, false, false, false, false] rfl rfl (by kernel_rfl) (fun _ _ _ h => h) (Or.inl ⟨by rfl, ?_⟩) ?_ ?_
     rotate_left
     ·
      intro w'
      go_simp
      with_reducible rfl
     rotate_left
     ·
      simp only [Act.put, List.setIfInBounds_toArray, List.set_cons_zero, List.set_cons_succ, i64_w, i32_w]
      rfl
     refine take_ (i := 1) (N := some 28) (v := ?_) (a' := ?_) #[true, true, false, false, false, false, false, false, false, false, false, false, false, false, false] rfl rfl (by kernel_rfl) (fun _ _ _ h => h) (Or.inl ⟨by rfl, ?_⟩) hHeld ?_ ?_
     rotate_left
     ·
      rintro w' ⟨s0, s1⟩
      go_simp
      with_reducible rfl
     rotate_left
     ·
      simp only [Act.put, List.setIfInBounds_toArray, List.set_cons_zero, List.set_cons_succ, i64_w, i32_w]
      rfl
     refine pure_ (i := 2) (N := some 29) (v := ?_) (a' := ?_) #[true, true, true, false, false, false, false, false, false, false, false, false, false, false, false] rfl rfl (by kernel_rfl) (fun _ _ _ h => h) (Or.inl ⟨by rfl, ?_⟩) ?_ ?_
     rotate_left
     ·
      intro w'
      go_simp
      with_reducible rfl
     rotate_left
     ·
      simp only [Act.put, List.setIfInBounds_toArray, List.set_cons_zero, List.set_cons_succ, i64_w, i32_w]
      rfl
     refine pure_ (i := 3) (N := some 30) (v := ?_) (a' := ?_) #[true, true, true, true, false, false, false, false, false, false, false, false, false, false, false] rfl rfl (by kernel_rfl) (fun _ _ _ h => h) (Or.inl ⟨by rfl, ?_⟩) ?_ ?_
     rotate_left
     ·
      intro w'
      go_simp
      with_reducible rfl
     rotate_left
     ·
      simp only [Act.put, List.setIfInBounds_toArray, List.set_cons_zero, List.set_cons_succ, i64_w, i32_w]
      rfl
     refine pure_ (i := 4) (N := some 31) (v := undef) (a' := ?_) #[true, true, true, true, true, false, false, false, false, false, false, false, false, false, false] rfl rfl (by kernel_rfl) (fun _ _ _ h => h) (Or.inr ⟨by rfl, rfl⟩) ?_ ?_
     rotate_left
     ·
      simp only [Act.put, List.setIfInBounds_toArray, List.set_cons_zero, List.set_cons_succ, i64_w, i32_w]
      rfl
     refine pure_ (i := 5) (N := some 32) (v := undef) (a' := ?_) #[true, true, true, true, true, true, false, false, false, false, false, false, false, false, false] rfl rfl (by kernel_rfl) (fun _ _ _ h => h) (Or.inr ⟨by rfl, rfl⟩) ?_ ?_
     rotate_left
     ·
      simp only [Act.put, List.setIfInBounds_toArray, List.set_cons_zero, List.set_cons_succ, i64_w, i32_w]
      rfl
     refine pure_ (i := 6) (N := some 33) (v := undef) (a' := ?_) #[true, true, true, true, true, true, true, false, false, false, false, false, false, false, false] rfl rfl (by kernel_rfl) (fun _ _ _ h => h) (Or.inr ⟨by rfl, rfl⟩) ?_ ?_
     rotate_left
     ·
      simp only [Act.put, List.setIfInBounds_toArray, List.set_cons_zero, List.set_cons_succ, i64_w, i32_w]
      rfl
     refine pure_ (i := 7) (N := some 34) (v := undef) (a' := ?_) #[true, true, true, true, true, true, true, true, false, false, false, false, false, false, false] rfl rfl (by kernel_rfl) (fun _ _ _ h => h) (Or.inr ⟨by rfl, rfl⟩) ?_ ?_
     rotate_left
     ·
      simp only [Act.put, List.setIfInBounds_toArray, List.set_cons_zero, List.set_cons_succ, i64_w, i32_w]
      rfl
     refine pure_ (i := 8) (N := some 35) (v := undef) (a' := ?_) #[true, true, true, true, true, true, true, true, true, false, false, false, false, false, false] rfl rfl (by kernel_rfl) (fun _ _ _ h => h) (Or.inr ⟨by rfl, rfl⟩) ?_ ?_
     rotate_left
     ·
      simp only [Act.put, List.setIfInBounds_toArray, List.set_cons_zero, List.set_cons_succ, i64_w, i32_w]
      rfl
     refine pure_ (i := 9) (N := some 36) (v := undef) (a' := ?_) #[true, true, true, true, true, true, true, true, true, true, false, false, false, false, false] rfl rfl (by kernel_rfl) (fun _ _ _ h => h) (Or.inr ⟨by rfl, rfl⟩) ?_ ?_
     rotate_left
     ·
      simp only [Act.put, List.setIfInBounds_toArray, List.set_cons_zero, List.set_cons_succ, i64_w, i32_w]
      rfl
     refine pure_ (i := 10) (N := some 37) (v := undef) (a' := ?_) #[true, true, true, true, true, true, true, true, true, true, true, false, false, false, false] rfl rfl (by kernel_rfl) (fun _ _ _ h => h) (Or.inr ⟨by rfl, rfl⟩) ?_ ?_
     rotate_left
     ·
      simp only [Act.put, List.setIfInBounds_toArray, List.set_cons_zero, List.set_cons_succ, i64_w, i32_w]
      rfl
     refine pure_ (i := 11) (N := some 38) (v := undef) (a' := ?_) #[true, true, true, true, true, true, true, true, true, true, true, true, false, false, false] rfl rfl (by kernel_rfl) (fun _ _ _ h => h) (Or.inr ⟨by rfl, rfl⟩) ?_ ?_
     rotate_left
     ·
      simp only [Act.put, List.setIfInBounds_toArray, List.set_cons_zero, List.set_cons_succ, i64_w, i32_w]
      rfl
     refine pure_ (i := 12) (N := some 39) (v := undef) (a' := ?_) #[true, true, true, true, true, true, true, true, true, true, true, true, true, false, false] rfl rfl (by kernel_rfl) (fun _ _ _ h => h) (Or.inr ⟨by rfl, rfl⟩) ?_ ?_
     rotate_left
     ·
      simp only [Act.put, List.setIfInBounds_toArray, List.set_cons_zero, List.set_cons_succ, i64_w, i32_w]
      rfl
     refine pure_ (i := 13) (N := some 40) (v := undef) (a' := ?_) #[true, true, true, true, true, true, true, true, true, true, true, true, true, true, false] rfl rfl (by kernel_rfl) (fun _ _ _ h => h) (Or.inr ⟨by rfl, rfl⟩) ?_ ?_
     rotate_left
     ·
      simp only [Act.put, List.setIfInBounds_toArray, List.set_cons_zero, List.set_cons_succ, i64_w, i32_w]
      rfl
     refine pure_ (i := 14) (N := some 41) (v := ?_) (a' := ?_) #[true, true, true, true, true, true, true, true, true, true, true, true, true, true, true] rfl rfl (by kernel_rfl) (fun _ _ _ h => h) (Or.inl ⟨by rfl, ?_⟩) ?_ ?_
     rotate_left
     ·
      intro w'
      go_simp
      with_reducible rfl
     rotate_left
     ·
      simp only [Act.put, List.setIfInBounds_toArray, List.set_cons_zero, List.set_cons_succ, i64_w, i32_w]
      rfl
     refine done_ (by kernel_rfl) ?_
     go_wp2
     go_roundw
     case rel => exact ⟨t + 1, rfl, by omega, ⟨by rw [hX.out, HSC.out, if_neg (by simpa using HTE.out)]⟩, ⟨grown_below hG.out (below_drew1 (Below.refl _ _))⟩, ⟨hO.out⟩, ⟨Kd.R_drew hL.out⟩, ⟨hF.out⟩, ⟨hZ.out⟩⟩
     case measure => simp [intOf]; omega
    ·
     have hb : (t != team) = true := bne_iff_ne.2 hte
     have HTE := Lib.hid hte
     clear hte
     have HW1 : Hid (wrap64 (t + 1) = t + 1) := IntWalk.wrap64_in _ ⟨by omega, by omega⟩
     have HW2 : Hid (wrap64 (m : Int) = (m : Int)) := IntWalk.wrap64_in _ ⟨by omega, by omega⟩
     have HSZ : Aside0 (W0.heap.size ≤ wr.heap.size) := ⟨hG.out.size⟩
     have HLEN : Aside0 (l.length ≤ 1000) := ⟨by omega⟩
     have HNB : Aside0 (some bt ≠ v.ownBlock ∧ some bf ≠ v.ownBlock) := ⟨fun e => by have h1 := hL.out.base _ e.symm; have h2 := blk_lt HST.out; omega, fun e => by have h1 := hL.out.base _ e.symm; have h2 := blk_lt HSF.out; omega⟩
     have HEL : Hid (∀ x ∈ l ++ [t], 0 ≤ x ∧ x < 6) := by
      intro x hx
      rcases List.mem_append.1 hx with hx | hx
      ·
       exact HLL.out x hx
      ·
       rw [List.mem_singleton] at hx; subst hx; omega
     cases hrec : fromF n team (ruledF reach ys op) m (l ++ [t]) (t + 1) with
     | none =>
      have HREC := Lib.hid hrec
      clear hrec
      go_upto_region 7 with fail
      refine start_ (n := 15) (S := fun w' => w'.cell? ⟨bt, 0, none⟩ = some (.int .i64 team) ∧ w'.cell? ⟨bf, 0, none⟩ = some (FV bo br bl bt bf)) (ds := []) #[false, false, false, false, false, false, false, false, false, false, false, false, false, false, false] (by kernel_rfl) rfl rfl ⟨c2, c3⟩ (fun hHeld => ?_)
      refine pure_ (i := 0) (N := some 27) (v := ?_) (a' := ?_) #[true, false, false, false, false, false, false, false, false, false, false, false, false, false, false] rfl rfl (by kernel_rfl) (fun _ _ _ h => h) (Or.inl ⟨by rfl, ?_⟩) ?_ ?_
      rotate_left
      ·
       intro w'
       go_simp
       with_reducible rfl
      rotate_left
      ·
       simp only [Act.put, List.setIfInBounds_toArray, List.set_cons_zero, List.set_cons_succ, i64_w, i32_w]
       rfl
      refine take_ (i := 1) (N := some 28) (v := ?_) (a' := ?_) #[true, true, false, false, false, false, false, false, false, false, false, false, false, false, false] rfl rfl (by kernel_rfl) (fun _ _ _ h => h) (Or.inl ⟨by rfl, ?_⟩) hHeld ?_ ?_
      rotate_left
      ·
       rintro w' ⟨s0, s1⟩
       go_simp
       with_reducible rfl
      rotate_left
      ·
       simp only [Act.put, List.setIfInBounds_toArray, List.set_cons_zero, List.set_cons_succ, i64_w, i32_w]
       rfl
      refine pure_ (i := 2) (N := some 29) (v := ?_) (a' := ?_) #[true, true, true, false, false, false, false, false, false, false, false, false, false, false, false] rfl rfl (by kernel_rfl) (fun _ _ _ h => h) (Or.inl ⟨by rfl, ?_⟩) ?_ ?_
      rotate_left
      ·
       intro w'
       go_simp
       with_reducible rfl
      rotate_left
      ·
       simp only [Act.put, List.setIfInBounds_toArray, List.set_cons_zero, List.set_cons_succ, i64_w, i32_w]
       rfl
      refine pure_ (i := 3) (N := some 30) (v := ?_) (a' := ?_) #[true, true, true, true, false, false, false, false, false, false, false, false, false, false, false] rfl rfl (by kernel_rfl) (fun _ _ _ h => h) (Or.inl ⟨by rfl, ?_⟩) ?_ ?_
      rotate_left
      ·
       intro w'
       go_simp
       with_reducible rfl
      rotate_left
      ·
       simp only [Act.put, List.setIfInBounds_toArray, List.set_cons_zero, List.set_cons_succ, i64_w, i32_w]
       rfl
      refine pure_ (i := 5) (N := some 32) (v := ?_) (a' := ?_) #[true, true, true, true, false, true, false, false, false, false, false, false, false, false, false] rfl rfl (by kernel_rfl) (fun _ _ _ h => h) (Or.inl ⟨by rfl, ?_⟩) ?_ ?_
      rotate_left
      ·
       intro w'
       go_simp
       with_reducible rfl
      rotate_left
      ·
       simp only [Act.put, List.setIfInBounds_toArray, List.set_cons_zero, List.set_cons_succ, i64_w, i32_w]
       rfl
      refine pure_ (i := 6) (N := some 33) (v := ?_) (a' := ?_) #[true, true, true, true, false, true, true, false, false, false, false, false, false, false, false] rfl rfl (by kernel_rfl) (fun _ _ _ h => h) (Or.inl ⟨by rfl, ?_⟩) ?_ ?_
      rotate_left
      ·
       intro w'
       go_simp
       with_reducible rfl
      rotate_left
      ·
       simp only [Act.put, List.setIfInBounds_toArray, List.set_cons_zero, List.set_cons_succ, i64_w, i32_w]
       rfl
      refine pure_ (i := 9) (N := some 36) (v := ?_) (a' := ?_) #[true, true, true, true, false, true, true, false, false, true, false, false, false, false, false] rfl rfl (by kernel_rfl) (fun _ _ _ h => h) (Or.inl ⟨by rfl, ?_⟩) ?_ ?_
      rotate_left
      ·
       intro w'
       go_simp
       with_reducible rfl
      rotate_left
      ·
       simp only [Act.put, List.setIfInBounds_toArray, List.set_cons_zero, List.set_cons_succ, i64_w, i32_w]
       rfl
      refine pure_ (i := 10) (N := some 37) (v := ?_) (a' := ?_) #[true, true, true, true, false, true, true, false, false, true, true, false, false, false, false] rfl rfl (by kernel_rfl) (fun _ _ _ h => h) (Or.inl ⟨by rfl, ?_⟩) ?_ ?_
      rotate_left
      ·
       intro w'
       go_simp
       with_reducible rfl
      rotate_left
      ·
       simp only [Act.put, List.setIfInBounds_toArray, List.set_cons_zero, List.set_cons_succ, i64_w, i32_w]
       rfl
      refine pure_ (i := 11) (N := some 38) (v := ?_) (a' := ?_) #[true, true, true, true, false, true, true, false, false, true, true, true, false, false, false] rfl rfl (by kernel_rfl) (fun _ _ _ h => h) (Or.inl ⟨by rfl, ?_⟩) ?_ ?_
      rotate_left
      ·
       intro w'
       go_simp
       with_reducible rfl
      rotate_left
      ·
       simp only [Act.put, List.setIfInBounds_toArray, List.set_cons_zero, List.set_cons_succ, i64_w, i32_w]
       rfl
      refine pure_ (i := 12) (N := some 39) (v := ?_) (a' := ?_) #[true, true, true, true, false, true, true, false, false, true, true, true, true, false, false] rfl rfl (by kernel_rfl) (fun _ _ _ h => h) (Or.inl ⟨by rfl, ?_⟩) ?_ ?_
      rotate_left
      ·
       intro w'
       go_simp
       with_reducible rfl
      rotate_left
      ·
       simp only [Act.put, List.setIfInBounds_toArray, List.set_cons_zero, List.set_cons_succ, i64_w, i32_w]
       rfl
      refine take_ (i := 4) (N := some 31) (v := ?_) (a' := ?_) #[true, true, true, true, true, true, true, false, false, true, true, true, true, false, false] rfl rfl (by kernel_rfl) (fun _ _ _ h => h) (Or.inl ⟨by rfl, ?_⟩) hHeld ?_ ?_
      rotate_left
      ·
       rintro w' ⟨s0, s1⟩
       go_simp
       with_reducible rfl
      rotate_left
      ·
       simp only [Act.put, List.setIfInBounds_toArray, List.set_cons_zero, List.set_cons_succ, i64_w, i32_w]
       rfl
      refine one_ (i := 7) (N := some 34) #[true, true, true, true, true, true, true, true, false, true, true, true, true, false, false] rfl rfl (by kernel_rfl) (by decide) (fun K hK => ?_)
      refine value_ (w1 := ?_) (v := ?_) (by rfl) rfl ?_ ?_
      rotate_left 2
      ·
       go_simp
       constructor
       ·
        rfl
       ·
        rfl
      refine hK.out _ _ ⟨(World.cell?_alloc_lt _ _ _ (World.block_lt_of_cell? _ _ (hHeld.1))).trans (hHeld.1), (World.cell?_alloc_lt _ _ _ (World.block_lt_of_cell? _ _ (hHeld.2))).trans (hHeld.2)⟩ (fun hHeld => ?_)
      clear hK K
      refine norm_ (a' := ?_) ?_ ?_
      rotate_left
      ·
       show Act.put _ (some 34) _ = _
       simp only [Act.put, List.setIfInBounds_toArray, List.set_cons_zero, List.set_cons_succ, i64_w, i32_w]
       rfl
      refine one_ (i := 8) (N := some 35) #[true, true, true, true, true, true, true, true, true, true, true, true, true, false, false] rfl rfl (by kernel_rfl) (by decide) (fun K hK => ?_)
      refine keep_step (W := wr.drew) W0.heap.size (by rfl) (.tmp 32) (.tmp 34) 34 rfl Try.underlying34 info3 v l t rfl rfl (Kd.R_drew hL.out) HSZ.out HLEN.out ?_
      intro v1 w1 ho1 ho2 hg1 hat1
      have HK1 : Aside0 (LAt w1 W0.heap.size v1 (l ++ [t])) := ⟨ho1⟩
      have HK2 : Aside0 (LAt w1 W0.heap.size v l) := ⟨ho2⟩
      have HK3 : Aside0 (wr.grownBy w1 v.ownBlock) := ⟨⟨hg1.os, hg1.tape, hg1.output, hg1.size, hg1.block⟩⟩
      have HK4 : Aside0 (v1.ownBlock = v.ownBlock ∨ ∃ b, v1.ownBlock = some b ∧ wr.heap.size ≤ b) := ⟨hat1⟩
      have hc1 := HK3.out.cell c2 HNB.out.1
      have hc2 := HK3.out.cell c3 HNB.out.2
      clear ho1 ho2 hg1 hat1
      refine hK.out _ _ ⟨hc1, hc2⟩ (fun hHeld => ?_)
      clear hK K
      refine norm_ (a' := ?_) ?_ ?_
      rotate_left
      ·
       show Act.put _ (some 35) _ = _
       simp only [Act.put, List.setIfInBounds_toArray, List.set_cons_zero, List.set_cons_succ, i64_w, i32_w]
       rfl
      refine one_ (i := 13) (N := some 40) #[true, true, true, true, true, true, true, true, true, true, true, true, true, true, false] rfl rfl (by kernel_rfl) (by decide) (fun K hK => ?_)
      refine goesF_ (f := 72) Try.func72 (by kernel_rfl) rfl #[] #[.pointer (some ⟨bo, 0, none⟩), .pointer (some ⟨br, 0, none⟩), .pointer (some ⟨bl, 0, none⟩), .pointer (some ⟨bt, 0, none⟩), .pointer (some ⟨bf, 0, none⟩)] #[v1, .int .i64 (wrap64 (t + 1)), .int .i64 (wrap64 m)] (by rfl) rfl rfl rfl (by simp only [List.map_toArray, List.map_cons, List.map_nil]; rfl) ?_
      obtain ⟨ov1, hov1⟩ := hO.out
      have HGW : Aside0 (W0.grownBy w1 (some bo)) := ⟨grown_more hG.out HK3.out hL.out.base⟩
      have HOW : Aside0 (w1.heap[bo]? = some (.cells #[ov1] 34 (0, 0))) := ⟨(HK3.out.block bo (blk_lt hov1) (fun e => by have := hL.out.base _ e.symm; omega)).trans hov1⟩
      clear hov1
      have hct : Calls Try.prog 72 #[v1, .int .i64 (wrap64 (t + 1)), .int .i64 (wrap64 m), .pointer (some ⟨bo, 0, none⟩), .pointer (some ⟨br, 0, none⟩), .pointer (some ⟨bl, 0, none⟩), .pointer (some ⟨bt, 0, none⟩), .pointer (some ⟨bf, 0, none⟩)] w1 (fromPost W0 bo (fromF n team (ruledF reach ys op) m (l ++ [t]) (t + 1)) v1 (l ++ [t]) w1) := by
       rw [HW1.out, HW2.out]
       exact HIH.out w1 v1 (l ++ [t]) (t + 1) ov1 HK1.out HEL.out (by omega) (by rw [List.length_append]; simp; omega) HGW.out HOW.out
      rw [HREC.out] at hct
      refine Calls.mono hct ?_
      clear hct
      intro e w2 hpost
      obtain ⟨rfl, hg2, ho2, hl2, hf2, hz2⟩ := hpost
      refine ⟨_, rfl, ?_⟩
      have HP1 := Aside0.mk hg2
      have HP2 := Aside0.mk ho2
      have HP3 := Aside0.mk (LAt.keep HK2.out HK1.out hl2 hf2)
      have HP4 : Aside0 (∀ k, W0.heap.size ≤ k → k < w.heap.size → some k ≠ v.ownBlock → w2.heap[k]? = w.heap[k]?) := ⟨fun k h1 h2 h3 => by
       have e1 : some k ≠ v1.ownBlock := by
        rcases HK4.out with e | ⟨b', e, hb'⟩
        ·
         rw [e]; exact h3
        ·
         rw [e]; intro e2; injection e2 with e2; have := hZ.out; omega
       have hkr : k < wr.heap.size := by have := hZ.out; omega
       have hk1 : k < w1.heap.size := by have := HK3.out.size; omega
       exact (hf2 k h1 hk1 e1).trans ((HK3.out.block k hkr h3).trans (hF.out k h1 h2 h3))⟩
      have HP5 : Aside0 (w.heap.size ≤ w2.heap.size) := ⟨by have h1 := hZ.out; have h2 := HK3.out.size; omega⟩
      have hq1 : w2.cell? ⟨bt, 0, none⟩ = some (.int .i64 team) := (World.cell?_of_block (a := ⟨bt, 0, none⟩) (HP1.out.block bt (blk_lt HST.out) (by simpa using nt))).trans (by rw [blk_cell HST.out 0]; rfl)
      have hq2 : w2.cell? ⟨bf, 0, none⟩ = some (FV bo br bl bt bf) := (World.cell?_of_block (a := ⟨bf, 0, none⟩) (HP1.out.block bf (blk_lt HSF.out) (by simpa using nf))).trans (by rw [blk_cell HSF.out 0]; rfl)
      clear hg2 ho2 hl2 hf2
      refine hK.out _ _ ⟨hq1, hq2⟩ (fun hHeld => ?_)
      clear hK K
      refine norm_ (a' := ?_) ?_ ?_
      rotate_left
      ·
       show Act.put _ (some 40) _ = _
       simp only [Act.put, List.setIfInBounds_toArray, List.set_cons_zero, List.set_cons_succ, i64_w, i32_w]
       rfl
      refine pure_ (i := 14) (N := some 41) (v := ?_) (a' := ?_) #[true, true, true, true, true, true, true, true, true, true, true, true, true, true, true] rfl rfl (by kernel_rfl) (fun _ _ _ h => h) (Or.inl ⟨by rfl, ?_⟩) ?_ ?_
      rotate_left
      ·
       intro w'
       go_simp
       with_reducible rfl
      rotate_left
      ·
       simp only [Act.put, List.setIfInBounds_toArray, List.set_cons_zero, List.set_cons_succ, i64_w, i32_w]
       rfl
      refine done_ (by kernel_rfl) ?_
      go_wp2
      go_roundw
      case rel => exact ⟨t + 1, rfl, by omega, ⟨by rw [hX.out, HSC.out, if_pos HTE.out, HREC.out, Option.none_or]⟩, ⟨HP1.out⟩, ⟨by obtain ⟨o', h, _⟩ := HP2.out; exact ⟨o', h⟩⟩, ⟨HP3.out⟩, ⟨HP4.out⟩, ⟨HP5.out⟩⟩
      case measure => simp [intOf]; omega
     | some r =>
      have HREC := Lib.hid hrec
      clear hrec
      go_upto_region 7 with fail
      refine start_ (n := 15) (S := fun w' => w'.cell? ⟨bt, 0, none⟩ = some (.int .i64 team) ∧ w'.cell? ⟨bf, 0, none⟩ = some (FV bo br bl bt bf)) (ds := []) #[false, false, false, false, false, false, false, false, false, false, false, false, false, false, false] (by kernel_rfl) rfl rfl ⟨c2, c3⟩ (fun hHeld => ?_)
      refine pure_ (i := 0) (N := some 27) (v := ?_) (a' := ?_) #[true, false, false, false, false, false, false, false, false, false, false, false, false, false, false] rfl rfl (by kernel_rfl) (fun _ _ _ h => h) (Or.inl ⟨by rfl, ?_⟩) ?_ ?_
      rotate_left
      ·
       intro w'
       go_simp
       with_reducible rfl
      rotate_left
      ·
       simp only [Act.put, List.setIfInBounds_toArray, List.set_cons_zero, List.set_cons_succ, i64_w, i32_w]
       rfl
      refine take_ (i := 1) (N := some 28) (v := ?_) (a' := ?_) #[true, true, false, false, false, false, false, false, false, false, false, false, false, false, false] rfl rfl (by kernel_rfl) (fun _ _ _ h => h) (Or.inl ⟨by rfl, ?_⟩) hHeld ?_ ?_
      rotate_left
      ·
       rintro w' ⟨s0, s1⟩
       go_simp
       with_reducible rfl
      rotate_left
      ·
       simp only [Act.put, List.setIfInBounds_toArray, List.set_cons_zero, List.set_cons_succ, i64_w, i32_w]
       rfl
      refine pure_ (i := 2) (N := some 29) (v := ?_) (a' := ?_) #[true, true, true, false, false, false, false, false, false, false, false, false, false, false, false] rfl rfl (by kernel_rfl) (fun _ _ _ h => h) (Or.inl ⟨by rfl, ?_⟩) ?_ ?_
      rotate_left
      ·
       intro w'
       go_simp
       with_reducible rfl
      rotate_left
      ·
       simp only [Act.put, List.setIfInBounds_toArray, List.set_cons_zero, List.set_cons_succ, i64_w, i32_w]
       rfl
      refine pure_ (i := 3) (N := some 30) (v := ?_) (a' := ?_) #[true, true, true, true, false, false, false, false, false, false, false, false, false, false, false] rfl rfl (by kernel_rfl) (fun _ _ _ h => h) (Or.inl ⟨by rfl, ?_⟩) ?_ ?_
      rotate_left
      ·
       intro w'
       go_simp
       with_reducible rfl
      rotate_left
      ·
       simp only [Act.put, List.setIfInBounds_toArray, List.set_cons_zero, List.set_cons_succ, i64_w, i32_w]
       rfl
      refine pure_ (i := 5) (N := some 32) (v := ?_) (a' := ?_) #[true, true, true, true, false, true, false, false, false, false, false, false, false, false, false] rfl rfl (by kernel_rfl) (fun _ _ _ h => h) (Or.inl ⟨by rfl, ?_⟩) ?_ ?_
      rotate_left
      ·
       intro w'
       go_simp
       with_reducible rfl
      rotate_left
      ·
       simp only [Act.put, List.setIfInBounds_toArray, List.set_cons_zero, List.set_cons_succ, i64_w, i32_w]
       rfl
      refine pure_ (i := 6) (N := some 33) (v := ?_) (a' := ?_) #[true, true, true, true, false, true, true, false, false, false, false, false, false, false, false] rfl rfl (by kernel_rfl) (fun _ _ _ h => h) (Or.inl ⟨by rfl, ?_⟩) ?_ ?_
      rotate_left
      ·
       intro w'
       go_simp
       with_reducible rfl
      rotate_left
      ·
       simp only [Act.put, List.setIfInBounds_toArray, List.set_cons_zero, List.set_cons_succ, i64_w, i32_w]
       rfl
      refine pure_ (i := 9) (N := some 36) (v := ?_) (a' := ?_) #[true, true, true, true, false, true, true, false, false, true, false, false, false, false, false] rfl rfl (by kernel_rfl) (fun _ _ _ h => h) (Or.inl ⟨by rfl, ?_⟩) ?_ ?_
      rotate_left
      ·
       intro w'
       go_simp
       with_reducible rfl
      rotate_left
      ·
       simp only [Act.put, List.setIfInBounds_toArray, List.set_cons_zero, List.set_cons_succ, i64_w, i32_w]
       rfl
      refine pure_ (i := 10) (N := some 37) (v := ?_) (a' := ?_) #[true, true, true, true, false, true, true, false, false, true, true, false, false, false, false] rfl rfl (by kernel_rfl) (fun _ _ _ h => h) (Or.inl ⟨by rfl, ?_⟩) ?_ ?_
      rotate_left
      ·
       intro w'
       go_simp
       with_reducible rfl
      rotate_left
      ·
       simp only [Act.put, List.setIfInBounds_toArray, List.set_cons_zero, List.set_cons_succ, i64_w, i32_w]
       rfl
      refine pure_ (i := 11) (N := some 38) (v := ?_) (a' := ?_) #[true, true, true, true, false, true, true, false, false, true, true, true, false, false, false] rfl rfl (by kernel_rfl) (fun _ _ _ h => h) (Or.inl ⟨by rfl, ?_⟩) ?_ ?_
      rotate_left
      ·
       intro w'
       go_simp
       with_reducible rfl
      rotate_left
      ·
       simp only [Act.put, List.setIfInBounds_toArray, List.set_cons_zero, List.set_cons_succ, i64_w, i32_w]
       rfl
      refine pure_ (i := 12) (N := some 39) (v := ?_) (a' := ?_) #[true, true, true, true, false, true, true, false, false, true, true, true, true, false, false] rfl rfl (by kernel_rfl) (fun _ _ _ h => h) (Or.inl ⟨by rfl, ?_⟩) ?_ ?_
      rotate_left
      ·
       intro w'
       go_simp
       with_reducible rfl
      rotate_left
      ·
       simp only [Act.put, List.setIfInBounds_toArray, List.set_cons_zero, List.set_cons_succ, i64_w, i32_w]
       rfl
      refine take_ (i := 4) (N := some 31) (v := ?_) (a' := ?_) #[true, true, true, true, true, true, true, false, false, true, true, true, true, false, false] rfl rfl (by kernel_rfl) (fun _ _ _ h => h) (Or.inl ⟨by rfl, ?_⟩) hHeld ?_ ?_
      rotate_left
      ·
       rintro w' ⟨s0, s1⟩
       go_simp
       with_reducible rfl
      rotate_left
      ·
       simp only [Act.put, List.setIfInBounds_toArray, List.set_cons_zero, List.set_cons_succ, i64_w, i32_w]
       rfl
      refine one_ (i := 7) (N := some 34) #[true, true, true, true, true, true, true, true, false, true, true, true, true, false, false] rfl rfl (by kernel_rfl) (by decide) (fun K hK => ?_)
      refine value_ (w1 := ?_) (v := ?_) (by rfl) rfl ?_ ?_
      rotate_left 2
      ·
       go_simp
       constructor
       ·
        rfl
       ·
        rfl
      refine hK.out _ _ ⟨(World.cell?_alloc_lt _ _ _ (World.block_lt_of_cell? _ _ (hHeld.1))).trans (hHeld.1), (World.cell?_alloc_lt _ _ _ (World.block_lt_of_cell? _ _ (hHeld.2))).trans (hHeld.2)⟩ (fun hHeld => ?_)
      clear hK K
      refine norm_ (a' := ?_) ?_ ?_
      rotate_left
      ·
       show Act.put _ (some 34) _ = _
       simp only [Act.put, List.setIfInBounds_toArray, List.set_cons_zero, List.set_cons_succ, i64_w, i32_w]
       rfl
      refine one_ (i := 8) (N := some 35) #[true, true, true, true, true, true, true, true, true, true, true, true, true, false, false] rfl rfl (by kernel_rfl) (by decide) (fun K hK => ?_)
      refine keep_step (W := wr.drew) W0.heap.size (by rfl) (.tmp 32) (.tmp 34) 34 rfl Try.underlying34 info3 v l t rfl rfl (Kd.R_drew hL.out) HSZ.out HLEN.out ?_
      intro v1 w1 ho1 ho2 hg1 hat1
      have HK1 : Aside0 (LAt w1 W0.heap.size v1 (l ++ [t])) := ⟨ho1⟩
      have HK2 : Aside0 (LAt w1 W0.heap.size v l) := ⟨ho2⟩
      have HK3 : Aside0 (wr.grownBy w1 v.ownBlock) := ⟨⟨hg1.os, hg1.tape, hg1.output, hg1.size, hg1.block⟩⟩
      have HK4 : Aside0 (v1.ownBlock = v.ownBlock ∨ ∃ b, v1.ownBlock = some b ∧ wr.heap.size ≤ b) := ⟨hat1⟩
      have hc1 := HK3.out.cell c2 HNB.out.1
      have hc2 := HK3.out.cell c3 HNB.out.2
      clear ho1 ho2 hg1 hat1
      refine hK.out _ _ ⟨hc1, hc2⟩ (fun hHeld => ?_)
      clear hK K
      refine norm_ (a' := ?_) ?_ ?_
      rotate_left
      ·
       show Act.put _ (some 35) _ = _
       simp only [Act.put, List.setIfInBounds_toArray, List.set_cons_zero, List.set_cons_succ, i64_w, i32_w]
       rfl
      refine one_ (i := 13) (N := some 40) #[true, true, true, true, true, true, true, true, true, true, true, true, true, true, false] rfl rfl (by kernel_rfl) (by decide) (fun K hK => ?_)
      refine goesF_ (f := 72) Try.func72 (by kernel_rfl) rfl #[] #[.pointer (some ⟨bo, 0, none⟩), .pointer (some ⟨br, 0, none⟩), .pointer (some ⟨bl, 0, none⟩), .pointer (some ⟨bt, 0, none⟩), .pointer (some ⟨bf, 0, none⟩)] #[v1, .int .i64 (wrap64 (t + 1)), .int .i64 (wrap64 m)] (by rfl) rfl rfl rfl (by simp only [List.map_toArray, List.map_cons, List.map_nil]; rfl) ?_
      obtain ⟨ov1, hov1⟩ := hO.out
      have HGW : Aside0 (W0.grownBy w1 (some bo)) := ⟨grown_more hG.out HK3.out hL.out.base⟩
      have HOW : Aside0 (w1.heap[bo]? = some (.cells #[ov1] 34 (0, 0))) := ⟨(HK3.out.block bo (blk_lt hov1) (fun e => by have := hL.out.base _ e.symm; omega)).trans hov1⟩
      clear hov1
      have hct : Calls Try.prog 72 #[v1, .int .i64 (wrap64 (t + 1)), .int .i64 (wrap64 m), .pointer (some ⟨bo, 0, none⟩), .pointer (some ⟨br, 0, none⟩), .pointer (some ⟨bl, 0, none⟩), .pointer (some ⟨bt, 0, none⟩), .pointer (some ⟨bf, 0, none⟩)] w1 (fromPost W0 bo (fromF n team (ruledF reach ys op) m (l ++ [t]) (t + 1)) v1 (l ++ [t]) w1) := by
       rw [HW1.out, HW2.out]
       exact HIH.out w1 v1 (l ++ [t]) (t + 1) ov1 HK1.out HEL.out (by omega) (by rw [List.length_append]; simp; omega) HGW.out HOW.out
      rw [HREC.out] at hct
      refine Calls.mono hct ?_
      clear hct
      intro e w2 hpost
      obtain ⟨rfl, hg2, ho2, hl2, hf2, hz2⟩ := hpost
      refine ⟨_, rfl, ?_⟩
      have HP1 := Aside0.mk hg2
      have HP2 := Aside0.mk ho2
      have HP3 := Aside0.mk (LAt.keep HK2.out HK1.out hl2 hf2)
      have HP4 : Aside0 (∀ k, W0.heap.size ≤ k → k < w.heap.size → some k ≠ v.ownBlock → w2.heap[k]? = w.heap[k]?) := ⟨fun k h1 h2 h3 => by
       have e1 : some k ≠ v1.ownBlock := by
        rcases HK4.out with e | ⟨b', e, hb'⟩
        ·
         rw [e]; exact h3
        ·
         rw [e]; intro e2; injection e2 with e2; have := hZ.out; omega
       have hkr : k < wr.heap.size := by have := hZ.out; omega
       have hk1 : k < w1.heap.size := by have := HK3.out.size; omega
       exact (hf2 k h1 hk1 e1).trans ((HK3.out.block k hkr h3).trans (hF.out k h1 h2 h3))⟩
      have HP5 : Aside0 (w.heap.size ≤ w2.heap.size) := ⟨by have h1 := hZ.out; have h2 := HK3.out.size; omega⟩
      have hq1 : w2.cell? ⟨bt, 0, none⟩ = some (.int .i64 team) := (World.cell?_of_block (a := ⟨bt, 0, none⟩) (HP1.out.block bt (blk_lt HST.out) (by simpa using nt))).trans (by rw [blk_cell HST.out 0]; rfl)
      have hq2 : w2.cell? ⟨bf, 0, none⟩ = some (FV bo br bl bt bf) := (World.cell?_of_block (a := ⟨bf, 0, none⟩) (HP1.out.block bf (blk_lt HSF.out) (by simpa using nf))).trans (by rw [blk_cell HSF.out 0]; rfl)
      clear hg2 ho2 hl2 hf2
      refine hK.out _ _ ⟨hq1, hq2⟩ (fun hHeld => ?_)
      clear hK K
      refine norm_ (a' := ?_) ?_ ?_
      rotate_left
      ·
       show Act.put _ (some 40) _ = _
       simp only [Act.put, List.setIfInBounds_toArray, List.set_cons_zero, List.set_cons_succ, i64_w, i32_w]
       rfl
      refine pure_ (i := 14) (N := some 41) (v := ?_) (a' := ?_) #[true, true, true, true, true, true, true, true, true, true, true, true, true, true, true] rfl rfl (by kernel_rfl) (fun _ _ _ h => h) (Or.inl ⟨by rfl, ?_⟩) ?_ ?_
      rotate_left
      ·
       intro w'
       go_simp
       with_reducible rfl
      rotate_left
      ·
       simp only [Act.put, List.setIfInBounds_toArray, List.set_cons_zero, List.set_cons_succ, i64_w, i32_w]
       rfl
      refine done_ (by kernel_rfl) ?_
      go_wp2
      refine bodyPost_ret (v := .bool true) (by simp [results, Try.results72, go_sem]) rfl ⟨by rw [hX.out, HSC.out, if_pos HTE.out, HREC.out]; rfl, HP1.out, ?_, HP3.out, HP4.out, HP5.out⟩
      obtain ⟨o', h, hr⟩ := HP2.out
      exact ⟨o', h, fun r' e => by rw [hX.out, HSC.out, if_pos HTE.out, HREC.out] at e; exact hr r' (by simpa using e)⟩
   ·
    go_wp2
    have hz : (n - t).toNat = 0 := by omega
    have hE : fromF n team (ruledF reach ys op) (m + 1) l next = none := by rw [hX.out, hz]; rfl
    refine bodyPost_ret (v := .bool false) (by simp [results, Try.results72, go_sem]) rfl ⟨by rw [hE]; rfl, hG.out, ?_, hL.out, hF.out, hZ.out⟩
    obtain ⟨o', h⟩ := hO.out
    exact ⟨o', h, fun r' e => by rw [hE] at e; cases e⟩
end Go.Proofs.Ytmnamkcjldaoeaa.PAll
namespace Go.Proofs.Ytmnamkcjldaoeaa.PAll
open Go.RowKit Go.Proofs.YtmnamkcjldaoeaaW.PrintWords Go.Proofs.YtmnamkcjldaoeaaW.PrintLast Go.Proofs.YtmnamkcjldaoeaaW.PrintMore
set_option linter.unusedVariables false
set_option linter.unusedSimpArgs false
def askF (n : Int) (l : List S85) (team : Int) : Int := if checkF n l = 0 then (if 0 ≤ team ∧ team < n then 0 else 2) else checkF n l
theorem asked_eq (n : Int) (l : List S85) (team : Int) : league_League_asked.f n l team = some (askF n l team) := by
 unfold league_League_asked.f askF
 rw [show league_CheckLeague.f n l = some (checkF n l) from rfl, Option.bind_some]
 by_cases h : checkF n l = 0
 ·
  rw [if_pos h, if_pos h]
  obtain ⟨_, h2, h6, _⟩ := check_ok h
  unfold league_League_team.f
  rw [within_eq, IntWalk.wrap64_in (n - 1) ⟨by omega, by omega⟩]
  simp only [Option.bind_some]
  by_cases ht : 0 ≤ team ∧ team < n
  ·
   rw [if_pos ht]
   simp [ht.1, show team ≤ n - 1 by omega]
  ·
   rw [if_neg ht]
   have : ¬ (0 ≤ team ∧ team ≤ n - 1) := by omega
   simp [this]
 ·
  rw [if_neg h, if_neg h]
theorem asked_calls (n : Int) (A : Option Addr) (c : Nat) (l : List S85) (team : Int) (w : World) (hr : Kd.C k85 w A l.length l) (hc : l.length ≤ c) (v : Int) (hv : askF n l team = v) :
  Calls Try.prog 69 #[.agg #[.int .i64 n, .slice A l.length c], .int .i64 team] w fun e w' => e = .returned (.int .i64 v) ∧ Below w.heap.size w w' :=
 league_League_asked.calls n A c l team v w hr hc (by rw [asked_eq, hv])
def manyF (n team : Int) (P : List Int → Bool) : Nat → Nat → Option (List Int)
 | 0, _ => none
 | k + 1, m => (fromF n team P m [] 0).or (manyF n team P k (m + 1))
def reasonF (n : Int) (l : List S85) (team : Int) : List Int × Int :=
 if askF n l team = 0 then
  (if (manyF n team (ruledF (reachF l team) (sumsF l) (openG l)) (n - 1).toNat 1).isSome = true then ((manyF n team (ruledF (reachF l team) (sumsF l) (openG l)) (n - 1).toNat 1).getD [], 0) else ([], 7))
 else ([], askF n l team)
def league_Reason.f (a0_0 : Int) (l0_1 : List (S85)) (a1 : Int) : Option (List Int × Int) := some (reasonF a0_0 l0_1 a1)
def seaW (w2 : World) (b bl bt : Nat) : World :=
 (((w2.alloc (.cells #[.func (.func 71) #[.pointer (some ⟨b, 0, none⟩)] #[]] 118)).alloc (.cells #[.slice none 0 0] 34)).alloc (.cells #[FV (w2.heap.size + 1) w2.heap.size bl bt (w2.heap.size + 1 + 1)] 119))
theorem seaW_size (w2 : World) (b bl bt : Nat) : (seaW w2 b bl bt).heap.size = w2.heap.size + 3 := by simp [seaW]
theorem seaW_below (w2 : World) (b bl bt : Nat) : Below w2.heap.size w2 (seaW w2 b bl bt) := below_alloc (below_alloc (below_alloc (Below.refl _ _) _) _) _
theorem seaW_out (w2 : World) (b bl bt : Nat) : (seaW w2 b bl bt).heap[w2.heap.size + 1]? = some (.cells #[.slice none 0 0] 34 (0, 0)) := by
 refine blk_alloc ?_ _
 have := blk_new (w2.alloc (.cells #[.func (.func 71) #[.pointer (some ⟨b, 0, none⟩)] #[]] 118)) (.cells #[.slice none 0 0] 34)
 simpa using this
theorem sea_mk {w2 : World} {b bl bt : Nat} {n team : Int} {A : Option Addr} {c len : Nat} {reach : Int} {ys : List Int} {op : List S85} {Ao : Option Addr} {co : Nat} {g : Value}
  (hl : w2.heap[bl]? = some (.cells #[.int .i64 n, .slice A len c] 32 (0, 0))) (ht : w2.heap[bt]? = some (.cells #[.int .i64 team] 3 (0, 0)))
  (ha : RaceAt w2 b team reach ys (.slice Ao op.length co) g) (ho : Kd.C k85 w2 Ao op.length op) (hA : ∀ ad, Ao = some ad → ad.block < b) :
  Sea (seaW w2 b bl bt) (w2.heap.size + 1) w2.heap.size bl bt (w2.heap.size + 1 + 1) b n team A c len reach ys op := by
 have hb := seaW_below w2 b bl bt
 have h1 := blk_lt hl
 have h2 := blk_lt ht
 have h3 := ha.lt
 refine ⟨?_, blk_below hl hb, blk_below ht hb, ?_, ⟨Ao, co, g, ha.below hb, Kd.C_below ho hb, fun ad e => ?_⟩, by omega, by omega, by omega, by omega, by omega, by rw [seaW_size]; omega⟩
 ·
  exact blk_alloc (blk_alloc (blk_new _ _) _) _
 ·
  have := blk_new ((w2.alloc (.cells #[.func (.func 71) #[.pointer (some ⟨b, 0, none⟩)] #[]] 118)).alloc (.cells #[.slice none 0 0] 34)) (.cells #[FV (w2.heap.size + 1) w2.heap.size bl bt (w2.heap.size + 1 + 1)] 119)
  rw [show ((w2.alloc (.cells #[.func (.func 71) #[.pointer (some ⟨b, 0, none⟩)] #[]] 118)).alloc (.cells #[.slice none 0 0] 34)).heap.size = w2.heap.size + 1 + 1 from by simp] at this
  exact this
 ·
  have := hA ad e
  rw [seaW_size]
  omega
set_option maxRecDepth 100000 in
set_option maxHeartbeats 4000000 in
theorem reason_calls (n : Int) (A : Option Addr) (c : Nat) (l : List S85) (team : Int) (w : World) (hr : Kd.C k85 w A l.length l) (hc : l.length ≤ c) :
  Calls Try.prog 37 #[.agg #[.int .i64 n, .slice A l.length c], .int .i64 team] w fun e w' => ∃ v0_ : Value, e = .returned (.tuple #[v0_, .int .i64 (reasonF n l team).2]) ∧ Kd.R (Kd.int .i64) 3 w' w.heap.size (fun _ => True) v0_ (reasonF n l team).1 ∧ Below w.heap.size w w' := by
 have HR := Aside0.mk hr
 have HC := Aside0.mk hc
 clear hr hc
 have HW2 := Aside0.mk (show ∀ o o2, Below w.heap.size w ((w.alloc o).alloc o2) from fun o o2 => below_alloc (below_alloc (Below.refl _ _) o) o2)
 by_cases h0 : askF n l team = 0
 ·
  have HK : Hid (checkF n l = 0 ∧ 0 ≤ team ∧ team < n) := by
   unfold askF at h0
   split at h0
   ·
    split at h0
    ·
     exact ⟨by assumption, by assumption⟩
    ·
     cases h0
   ·
    exact absurd h0 (by assumption)
  have HOK := Lib.hid (check_ok HK.out.1)
  have HSO := Lib.hid (check_sound HK.out.1)
  have hl20 : l.length ≤ 20 := HOK.out.1
  have hn6 : n ≤ 6 := HOK.out.2.2.1
  have ht0 : 0 ≤ team := HK.out.2.1
  have htn : team < n := HK.out.2.2
  have H0 := Lib.hid h0
  clear h0
  go_enter Try.func37, Try.ntmps37
  go_wp2_with (first | (go_at_call 69; (with_reducible refine (asked_calls n A c l team _ ?hr HC.out 0 H0.out).mono ?_); (case hr => exact Kd.C_alloc (Kd.C_alloc HR.out _) _); rintro e w1 ⟨rfl, hb1⟩; have hbl : w1.heap[w.heap.size]? = some (.cells #[.int .i64 n, .slice A l.length c] 32 (0, 0)) := (hb1.block _ (by simp; omega)).trans (blk_alloc (blk_new _ _) _); have hbt : w1.heap[w.heap.size + 1]? = some (.cells #[.int .i64 team] 3 (0, 0)) := (hb1.block _ (by simp)).trans (by have := blk_new (w.alloc (.cells #[.int .i64 n, .slice A l.length c] 32)) (.cells #[.int .i64 team] 3); simpa using this); have x0 := blk_cell hbl 0; have x1 := blk_cell hbl 1; have y0 := blk_cell hbt 0; have HBL := Aside0.mk hbl; have HBT := Aside0.mk hbt; have HB1 := Aside0.mk (below_then (HW2.out _ _) (by simp; omega) hb1); clear hbl hbt hb1) | (go_at_call 70; (with_reducible refine (race_calls n A c l team _ ?hr hl20 HSO.out ht0 (by omega)).mono ?_); (case hr => exact Kd.C_below HR.out HB1.out); rintro e w2 ⟨b, Ao, co, rfl, hbb, hra, hro, hrl, hb2⟩; have HBL2 := Aside0.mk (blk_below HBL.out hb2); have HBT2 := Aside0.mk (blk_below HBT.out hb2); have HRB := Aside0.mk hbb; have HRA := Aside0.mk hra; have HRO := Aside0.mk hro; have HRL := Aside0.mk hrl; have HB2 := Aside0.mk (below_then HB1.out (below_size HB1.out) hb2); clear hbb hra hro hrl hb2 x0 x1 y0))
  have HSEA := Aside0.mk (sea_mk HBL2.out HBT2.out HRA.out HRO.out HRL.out)
  have HBW : Aside0 (Below w.heap.size w (seaW w2 b w.heap.size (w.heap.size + 1))) := ⟨below_then HB2.out (below_size HB2.out) (seaW_below _ _ _ _)⟩
  have HSO := Aside0.mk (seaW_out w2 b w.heap.size (w.heap.size + 1))
  have HSZ := Aside0.mk (seaW_size w2 b w.heap.size (w.heap.size + 1))
  have hlt2 : w.heap.size + 1 < w2.heap.size := blk_lt HBT2.out
  obtain ⟨P, hP⟩ : ∃ P, ruledF (reachF l team) (sumsF l) (openG l) = P := ⟨_, rfl⟩
  have HPP := Lib.hid hP
  clear hP
  have hn2 : 2 ≤ n := HOK.out.2.1
  go_loopw [11] (fun v wr => ∃ m : Nat, 1 ≤ m ∧ m ≤ n ∧ v = .int .i64 m ∧ Aside0 (manyF n team P (n - 1).toNat 1 = manyF n team P (n - m).toNat m) ∧ Aside0 ((seaW w2 b w.heap.size (w.heap.size + 1)).grownBy wr (some (w2.heap.size + 1))) ∧ Aside0 (∃ ov, wr.heap[w2.heap.size + 1]? = some (.cells #[ov] 34 (0, 0)))) (fun v _ => (n - intOf v).toNat)
  case atStart => exact ⟨1, Nat.le_refl _, by omega, rfl, ⟨rfl⟩, ⟨World.grownBy.refl _ _⟩, ⟨_, HSO.out⟩⟩
  case round =>
   obtain ⟨m, hm1, hmn, rfl, hX, hG, hO⟩ := hrel
   have S := HSEA.out
   have bl1 : wr.heap[w.heap.size]? = _ := (hG.out.block _ (blk_lt S.hl) (by have := S.nl; simpa using this)).trans S.hl
   have bf1 : wr.heap[w2.heap.size + 1 + 1]? = _ := (hG.out.block _ (blk_lt S.hf) (by simp)).trans S.hf
   have c1 := blk_cell bl1 0
   have c3 := blk_cell bf1 0
   simp only [List.getElem?_toArray, List.getElem?_cons_zero] at c1 c3
   clear S bl1 bf1
   by_cases hlt : (m : Int) < n
   ·
    have hk : (n - m).toNat = (n - (m + 1 : Nat)).toNat + 1 := by omega
    have HSC : Hid (manyF n team P (n - m).toNat m = (fromF n team P m [] 0).or (manyF n team P (n - (m + 1 : Nat)).toNat (m + 1))) := by show _ = _; rw [hk]; rfl
    clear hk
    have hct : ∀ ov, wr.heap[w2.heap.size + 1]? = some (.cells #[ov] 34 (0, 0)) → Calls Try.prog 72 #[.slice none 0 0, .int .i64 0, .int .i64 m, .pointer (some ⟨w2.heap.size + 1, 0, none⟩), .pointer (some ⟨w2.heap.size, 0, none⟩), .pointer (some ⟨w.heap.size, 0, none⟩), .pointer (some ⟨w.heap.size + 1, 0, none⟩), .pointer (some ⟨w2.heap.size + 1 + 1, 0, none⟩)] wr
      (fromPost (seaW w2 b w.heap.size (w.heap.size + 1)) (w2.heap.size + 1) (fromF n team P m [] 0) (.slice none 0 0) [] wr) := by
     intro ov hov
     rw [← HPP.out]
     exact from_calls _ _ _ _ _ _ _ n team A c l.length _ _ _ HSEA.out hn6 m wr (.slice none 0 0) [] 0 ov (Kd.R_nil _ _ _ _ _) (by simp) (by omega) (by simp; omega) hG.out hov
    obtain ⟨ov, hov⟩ := hO.out
    have hct2 := hct ov hov
    clear hct hov
    cases hrec : fromF n team P m [] 0 with
    | none =>
     rw [hrec] at hct2
     have HCT := Lib.hid hct2
     have HREC := Lib.hid hrec
     clear hrec hct2
     go_wp2_with (go_at_call 72; (with_reducible refine Calls.mono HCT.out ?_); intro e w3 hpost; obtain ⟨rfl, hg3, ho3, _, _, _⟩ := hpost; have HG3 := Aside0.mk hg3; have HO3 := Aside0.mk ho3; clear hg3 ho3)
     go_roundw
     case rel => exact ⟨m + 1, by omega, by omega, by simp, ⟨by rw [hX.out, HSC.out, HREC.out, Option.none_or]⟩, ⟨HG3.out⟩, ⟨by obtain ⟨o', h, _⟩ := HO3.out; exact ⟨o', h⟩⟩⟩
     case measure => simp [intOf]; omega
    | some r =>
     rw [hrec] at hct2
     have HCT := Lib.hid hct2
     have HREC := Lib.hid hrec
     clear hrec hct2
     have HM : Hid (manyF n team P (n - 1).toNat 1 = some r) := by show _ = _; rw [hX.out, HSC.out, HREC.out]; rfl
     have HE : Hid (reasonF n l team = (r, 0)) := by show _ = _; unfold reasonF; rw [if_pos H0.out, HPP.out, HM.out]; rfl
     go_wp2_with (go_at_call 72; (with_reducible refine Calls.mono HCT.out ?_); intro e w3 hpost; obtain ⟨rfl, hg3, ⟨o3, ho3, hr3⟩, _, _, _⟩ := hpost; have q3 : w3.cell? ⟨w2.heap.size + 1, 0, none⟩ = some o3 := (blk_cell ho3 0).trans rfl; obtain ⟨A3, c3', rfl⟩ := Kd.R_slice (hr3 r rfl); have HG3 := Aside0.mk hg3; have HR3 := Aside0.mk (hr3 r rfl); clear hg3 ho3 hr3)
     go_ret2
     refine ⟨_, by rw [HE.out]; rfl, ?_, ?_⟩
     ·
      rw [HE.out]
      exact Kd.R_lower HR3.out (by rw [HSZ.out]; omega)
     ·
      exact HBW.out.grown HG3.out (below_size HBW.out) (fun k e => by injection e; omega)
   ·
    have hz : (n - m).toNat = 0 := by omega
    have HM : Hid (manyF n team P (n - 1).toNat 1 = none) := by show _ = _; rw [hX.out, hz]; rfl
    have HE : Hid (reasonF n l team = ([], 7)) := by show _ = _; unfold reasonF; rw [if_pos H0.out, HPP.out, HM.out]; rfl
    go_wp2
    go_ret2
    exact ⟨.slice none 0 0, by rw [HE.out]; rfl, by rw [HE.out]; exact Kd.R_nil _ _ _ _ _, HBW.out.grown hG.out (below_size HBW.out) (fun k e => by injection e; omega)⟩
 ·
  have HNE : (askF n l team != 0) = true := bne_iff_ne.2 h0
  have HE : Hid (reasonF n l team = ([], askF n l team)) := by show _ = _; unfold reasonF; rw [if_neg h0]
  clear h0
  go_enter Try.func37, Try.ntmps37
  go_wp2_with (go_at_call 69; (with_reducible refine (asked_calls n A c l team _ ?hr HC.out _ rfl).mono ?_); (case hr => exact Kd.C_alloc (Kd.C_alloc HR.out _) _); rintro e w1 ⟨rfl, hb1⟩; have HB1 := Aside0.mk (below_then (HW2.out _ _) (by simp; omega) hb1); clear hb1)
  go_ret2
  exact ⟨.slice none 0 0, by rw [HE.out]; rfl, by rw [HE.out]; exact Kd.R_nil _ _ _ _ _, HB1.out⟩
theorem league_Reason.calls (a0_0 : Int) (A0_1 : Option Addr) (c0_1 : Nat) (l0_1 : List (S85)) (a1 : Int) (r1 : List Int) (r2 : Int) (w : World) (hr0_1 : Kd.C k85 w A0_1 l0_1.length l0_1) (hc0_1 : l0_1.length ≤ c0_1) (h : league_Reason.f a0_0 l0_1 a1 = some (r1, r2)) :
  Calls Try.prog 37 #[.agg #[.int .i64 a0_0, .slice A0_1 l0_1.length c0_1], .int .i64 a1] w fun e w' => ∃ v0_ : Value, e = .returned (.tuple #[v0_, .int .i64 r2]) ∧ Kd.R (Kd.int .i64) 3 w' w.heap.size (fun _ => True) v0_ r1 ∧ Below w.heap.size w w' := by
 have e : reasonF a0_0 l0_1 a1 = (r1, r2) := Option.some.inj h
 have := reason_calls a0_0 A0_1 c0_1 l0_1 a1 w hr0_1 hc0_1
 rw [e] at this
 exact this
end Go.Proofs.Ytmnamkcjldaoeaa.PAll
namespace Go.Proofs.Ytmnamkcjldaoeaa.PAll
open Go.RowKit Go.Proofs.YtmnamkcjldaoeaaW.PrintWords Go.Proofs.YtmnamkcjldaoeaaW.PrintLast Go.Proofs.YtmnamkcjldaoeaaW.PrintMore
set_option linter.unusedVariables false
set_option linter.unusedSimpArgs false
theorem ask_ok {n : Int} {l : List S85} {team : Int} (h : askF n l team = 0) : checkF n l = 0 ∧ 0 ≤ team ∧ team < n := by
 unfold askF at h
 split at h
 ·
  split at h
  ·
   exact ⟨by assumption, by assumption⟩
  ·
   cases h
 ·
  exact absurd h (by assumption)
theorem index_arr (ys : List Int) (hl : ys.length = 6) (i : Int) (h0 : 0 ≤ i) (h6 : i < 6) (w : World) : (Instr.index 102 (.agg (arrV ys)) (.int .i64 i)).run Try.prog w = .ok (.int .i64 (ys.getD i.toNat 0)) w := by
 have hu : Try.prog.underlying 102 = some (.array (Try.prog.arrayLen 102) (Try.prog.elem 102)) := by kernel_rfl
 have hg : (arrV ys)[i.toNat]? = some (.int .i64 (ys.getD i.toNat 0)) := by
  rw [show arrV ys = (ys.map (Value.int .i64)).toArray from rfl, List.getElem?_toArray, List.getElem?_map, List.getElem?_eq_getElem (by omega), List.getD_eq_getElem?_getD, List.getElem?_eq_getElem (by omega)]
  rfl
 have hs : (arrV ys).size = 6 := by
  rw [show arrV ys = (ys.map (Value.int .i64)).toArray from rfl, List.size_toArray, List.length_map, hl]
 have hn : Try.prog.arrayLen 102 = 6 := by kernel_rfl
 rw [hn] at hu
 simp [Instr.index, run_underlying hu, asIntOf, hg, hs, h0, h6, go_sem]
 rw [Array.getElem_eq_iff, hg, List.getD_eq_getElem?_getD]
end Go.Proofs.Ytmnamkcjldaoeaa.PAll
namespace Go.Proofs.Ytmnamkcjldaoeaa.PAll
open Go.RowKit Go.Proofs.YtmnamkcjldaoeaaW.PrintWords Go.Proofs.YtmnamkcjldaoeaaW.PrintLast Go.Proofs.YtmnamkcjldaoeaaW.PrintMore
set_option linter.unusedVariables false
set_option linter.unusedSimpArgs false
def subN (n b : Nat) : List Int := ((List.range n).filter fun t => b / 2 ^ t % 2 = 1).map fun (t : Nat) => (t : Int)
def subsL (n : Nat) : List (List Int) := (List.range (2 ^ n - 1)).map fun i => subN n (i + 1)
end Go.Proofs.Ytmnamkcjldaoeaa.PAll
