/- Parts of the proof of leagueOrder_holds, in order: HAfter -/
import Derived.Test.YtmnamkcjldaoeaaKOrder3
import Derived.Test.YtmnamkcjldaoeaaKOrder5
import Derived.Test.YtmnamkcjldaoeaaKOrder7
import Derived.Test.YtmnamkcjldaoeaaKOrder9
namespace Go.Proofs.Ytmnamkcjldaoeaa.PAll
open Go.RowKit Go.Proofs.YtmnamkcjldaoeaaW.PrintWords Go.Proofs.YtmnamkcjldaoeaaW.PrintLast Go.Proofs.YtmnamkcjldaoeaaW.PrintMore
set_option linter.unusedVariables false
set_option linter.unusedSimpArgs false
def outB (o : Int) : Bool := decide (1 ≤ o) && decide (o ≤ 3)
theorem after1_eq (x : Int) : league_After_1.f x = some (outB x) := by
 unfold league_After_1.f outB
 by_cases h : 1 ≤ x <;> simp [h]
def addOut (s : List Int) (p : S85 × Int) : List Int := addAt (addAt s p.1.f0 (3 - p.2)) p.1.f1 (p.2 - 1)
def afterSum (l : List S85) (os : List Int) : List Int := ((openG l).zip os).foldl addOut (sumsF l)
def afterF (n : Int) (l : List S85) (os : List Int) : List Int × Int :=
 if checkF n l ≠ 0 then ([], checkF n l) else if os.length ≠ (openG l).length ∨ os.all outB = false then ([], 2) else ((afterSum l os).take n.toNat, 0)
def league_After.f (a0_0 : Int) (l0_1 : List (S85)) (l1 : List Int) : Option (List Int × Int) := some (afterF a0_0 l0_1 l1)
theorem check_ok {n : Int} {l : List S85} (h : checkF n l = 0) : l.length ≤ 20 ∧ 2 ≤ n ∧ n ≤ 6 ∧ ∀ g ∈ l, gameB n g = true := by
 unfold checkF at h
 split at h
 ·
  cases h
 ·
  split at h
  ·
   rename_i h1 h2
   simp only [Bool.and_eq_true, teamsB, decide_eq_true_eq, List.all_eq_true] at h2
   exact ⟨by omega, h2.1.1, h2.1.2, h2.2⟩
  ·
   cases h
theorem gameB_sound {n : Int} {g : S85} (hn : n ≤ 6) (h : gameB n g = true) : sound g := by
 unfold gameB at h
 simp only [Bool.and_eq_true, decide_eq_true_eq, Bool.not_eq_true', decide_eq_false_iff_not] at h
 unfold sound
 omega
theorem check_sound {n : Int} {l : List S85} (h : checkF n l = 0) : ∀ g ∈ l, sound g := fun g hg => gameB_sound (check_ok h).2.2.1 ((check_ok h).2.2.2 g hg)
theorem afterSum_to (l : List S85) (os : List Int) (k : Nat) (h1 : k < (openG l).length) (h2 : k < os.length) :
  (((openG l).zip os).take (k + 1)).foldl addOut (sumsF l) = addOut ((((openG l).zip os).take k).foldl addOut (sumsF l)) ((openG l).getD k z85, os.getD k 0) := by
 have hz : k < ((openG l).zip os).length := by rw [List.length_zip]; omega
 rw [List.take_succ_eq_append_getElem hz, List.foldl_append]
 simp only [List.foldl_cons, List.foldl_nil, List.getElem_zip, List.getD_eq_getElem?_getD, List.getElem?_eq_getElem h1, List.getElem?_eq_getElem h2, Option.getD_some]
theorem afterSum_length (l : List S85) (zs : List (S85 × Int)) : (zs.foldl addOut (sumsF l)).length = 6 := by
 have : ∀ s : List Int, (zs.foldl addOut s).length = s.length := by
  induction zs with
  | nil => intro s; rfl
  | cons z zs ih => intro s; rw [List.foldl_cons, ih]; simp [addOut, addAt]
 rw [this, sumsF_length]
theorem six_of {xs : List Int} (h : xs.length = 6) : ∃ y0 y1 y2 y3 y4 y5, xs = [y0, y1, y2, y3, y4, y5] := by
 match xs, h with
 | [y0, y1, y2, y3, y4, y5], _ => exact ⟨_, _, _, _, _, _, rfl⟩
theorem ArrAt.C {w : World} {b t : Nat} {xs : List Int} (h : ArrAt w b t xs) (m : Nat) (hm : m ≤ xs.length) (hl : xs.length ≤ 1000000) : Kd.C (Kd.int .i64) w (some ⟨b, 0, none⟩) (xs.take m).length (xs.take m) := by
 refine Kd.C_take ?_ hm
 refine Kd.C_of_reads (d := 0) ⟨rfl, by omega, fun _ => ⟨_, rfl, fun j hj => ?_⟩⟩
 rw [add_plain]
 exact (by simpa using h.cell j hj)
set_option maxRecDepth 100000 in
set_option maxHeartbeats 4000000 in
theorem league_After.calls (a0_0 : Int) (A0_1 : Option Addr) (c0_1 : Nat) (l0_1 : List (S85)) (A1 : Option Addr) (c1 : Nat) (l1 : List Int) (r1 : List Int) (r2 : Int) (w : World) (hr0_1 : Kd.C k85 w A0_1 l0_1.length l0_1) (hc0_1 : l0_1.length ≤ c0_1) (hr1 : Kd.C (Kd.int .u8) w A1 l1.length l1) (hc1 : l1.length ≤ c1) (h : league_After.f a0_0 l0_1 l1 = some (r1, r2)) :
  Calls Try.prog 25 #[.agg #[.int .i64 a0_0, .slice A0_1 l0_1.length c0_1], .slice A1 l1.length c1] w fun e w' => ∃ v0_ : Value, e = .returned (.tuple #[v0_, .int .i64 r2]) ∧ Kd.R (Kd.int .i64) 3 w' w.heap.size (fun _ => True) v0_ r1 ∧ Below w.heap.size w w' := by
 have h' : afterF a0_0 l0_1 l1 = (r1, r2) := Option.some.inj h
 clear h
 have HR := Aside0.mk hr0_1
 have HR1 := Aside0.mk hr1
 have HC := Aside0.mk hc0_1
 have HC1 := Aside0.mk hc1
 have hm1 : l1.length ≤ 9223372036854775807 := hr1.2.1
 clear hr0_1 hr1 hc0_1 hc1
 have HW := Aside0.mk (show ∀ o, Below w.heap.size w (w.alloc o) from fun o => below_alloc (Below.refl _ _) o)
 unfold afterF at h'
 by_cases h0 : checkF a0_0 l0_1 = 0
 ·
  rw [if_neg (by simp [h0])] at h'
  have HOK := Lib.hid (check_ok h0)
  have HSO := Lib.hid (check_sound h0)
  have H0 := Lib.hid h0
  clear h0
  by_cases hlen : l1.length = (openG l0_1).length
  ·
   have hlb : ((l1.length : Int) != ((openG l0_1).length : Int)) = false := by rw [bne_eq_false_iff_eq]; omega
   have hlb2 : (l1.length != (openG l0_1).length) = false := by rw [bne_eq_false_iff_eq]; omega
   have HLEN := Lib.hid hlen
   cases hall : l1.all outB
   ·
    rw [if_pos (.inr hall)] at h'
    obtain ⟨rfl, rfl⟩ := Prod.mk.inj h'
    clear hlen h'
    go_enter Try.func25, Try.ntmps25
    go_wp2_with (first | (go_at_call 17; (with_reducible refine (league_CheckLeague.calls a0_0 A0_1 c0_1 l0_1 0 _ ?hr HC.out ?hh).mono ?_); (case hr => exact Kd.C_alloc HR.out _); (case hh => exact congrArg some H0.out); rintro e w1 ⟨rfl, hb1⟩; have hbox : w1.heap[w.heap.size]? = some (.cells #[.int .i64 a0_0, .slice A0_1 l0_1.length c0_1] 32 (0, 0)) := (hb1.block _ (by simp)).trans (blk_new _ _); have x0 := blk_cell hbox 0; have x1 := blk_cell hbox 1; have HBOX := Aside0.mk hbox; clear hbox; have HB1 := Aside0.mk (below_then (HW.out _) (by simp) hb1); clear hb1) | (go_at_call 59; (with_reducible refine (open_calls a0_0 A0_1 c0_1 l0_1 _ ?hr ?hl).mono ?_); (case hr => exact Kd.C_below HR.out HB1.out); (case hl => have := HOK.out.1; omega); rintro e w2 ⟨v2, rfl, ho2, hb2⟩; obtain ⟨Ao, co, rfl⟩ := Kd.R_slice ho2; have HO2 := Aside0.mk ho2; clear ho2; have HBOX2 := Aside0.mk (blk_below HBOX.out hb2); have z0 := blk_cell HBOX2.out 0; have z1 := blk_cell HBOX2.out 1; have HB2 := Aside0.mk (below_then HB1.out (below_size HB1.out) hb2); clear hb2) | (go_at_call 53; (with_reducible refine (allU60 A1 c1 l1 outB _ ?h1 ?h2).mono ?_); (case h1 => exact Kd.C_below HR1.out HB2.out); (case h2 => exact fun x W _ => (league_After_1.calls x (outB x) W (after1_eq x)).mono fun e w' ⟨he, hd⟩ => ⟨he, hd.below⟩); rintro e w3 ⟨rfl, hb3⟩; have HBOX3 := Aside0.mk (blk_below HBOX2.out hb3); have t0 := blk_cell HBOX3.out 0; have t1 := blk_cell HBOX3.out 1; have HB3 := Aside0.mk (below_then HB2.out (below_size HB2.out) hb3); have HO3 := Aside0.mk (Kd.R_below HO2.out hb3); clear hb3))
    go_ret2
    exact ⟨_, rfl, Kd.R_nil _ _ _ _ _, HB3.out⟩
   ·
    rw [if_neg (by simp [hlen, hall])] at h'
    obtain ⟨rfl, rfl⟩ := Prod.mk.inj h'
    obtain ⟨y0, y1, y2, y3, y4, y5, hy⟩ := six_of (sumsF_length l0_1)
    have HY := Lib.hid hy
    have HSUM : Hid (∀ W, Below w.heap.size w W → Calls Try.prog 61 #[.agg #[.int .i64 a0_0, .slice A0_1 l0_1.length c0_1]] W fun e w' => e = .returned (.agg #[.int .i64 y0, .int .i64 y1, .int .i64 y2, .int .i64 y3, .int .i64 y4, .int .i64 y5]) ∧ Below W.heap.size W w') := by
     intro W hW
     have := sums_calls a0_0 A0_1 c0_1 l0_1 W (Kd.C_below HR.out hW) HSO.out
     rw [hy] at this
     exact this
    have HALL := Lib.hid hall
    clear hlen h' hy
    go_enter Try.func25, Try.ntmps25
    go_wp2_with (first | (go_at_call 17; (with_reducible refine (league_CheckLeague.calls a0_0 A0_1 c0_1 l0_1 0 _ ?hr HC.out ?hh).mono ?_); (case hr => exact Kd.C_alloc HR.out _); (case hh => exact congrArg some H0.out); rintro e w1 ⟨rfl, hb1⟩; have hbox : w1.heap[w.heap.size]? = some (.cells #[.int .i64 a0_0, .slice A0_1 l0_1.length c0_1] 32 (0, 0)) := (hb1.block _ (by simp)).trans (blk_new _ _); have x0 := blk_cell hbox 0; have x1 := blk_cell hbox 1; have HBOX := Aside0.mk hbox; clear hbox; have HB1 := Aside0.mk (below_then (HW.out _) (by simp) hb1); clear hb1) | (go_at_call 59; (with_reducible refine (open_calls a0_0 A0_1 c0_1 l0_1 _ ?hr ?hl).mono ?_); (case hr => exact Kd.C_below HR.out HB1.out); (case hl => have := HOK.out.1; omega); rintro e w2 ⟨v2, rfl, ho2, hb2⟩; obtain ⟨Ao, co, rfl⟩ := Kd.R_slice ho2; have HO2 := Aside0.mk ho2; clear ho2; have HBOX2 := Aside0.mk (blk_below HBOX.out hb2); have z0 := blk_cell HBOX2.out 0; have z1 := blk_cell HBOX2.out 1; have HB2 := Aside0.mk (below_then HB1.out (below_size HB1.out) hb2); clear hb2) | (go_at_call 53; (with_reducible refine (allU60 A1 c1 l1 outB _ ?h1 ?h2).mono ?_); (case h1 => exact Kd.C_below HR1.out HB2.out); (case h2 => exact fun x W _ => (league_After_1.calls x (outB x) W (after1_eq x)).mono fun e w' ⟨he, hd⟩ => ⟨he, hd.below⟩); rintro e w3 ⟨rfl, hb3⟩; have HBOX3 := Aside0.mk (blk_below HBOX2.out hb3); have t0 := blk_cell HBOX3.out 0; have t1 := blk_cell HBOX3.out 1; have HB3 := Aside0.mk (below_then HB2.out (below_size HB2.out) hb3); have HO3 := Aside0.mk (Kd.R_below HO2.out hb3); clear hb3) | (go_at_call 61; (with_reducible refine (HSUM.out _ ?h1).mono ?_); (case h1 => exact HB3.out); rintro e w4 ⟨rfl, hb4⟩; have HBOX4 := Aside0.mk (blk_below HBOX3.out hb4); have HB4 := Aside0.mk (below_then HB3.out (below_size HB3.out) hb4); have HO4 := Aside0.mk (Kd.R_below HO3.out hb4); clear hb4))
    obtain ⟨B, hB⟩ : ∃ B, w4.heap.size = B := ⟨_, rfl⟩
    have hBW : w.heap.size < B := by rw [← hB]; exact blk_lt HBOX4.out
    have HBB := Lib.hid hB
    rw [hB]
    clear hB x0 x1 z0 z1 t0 t1
    go_loopw [32] (fun v wr => ∃ k : Nat, k ≤ l1.length ∧ v = .int .i64 k ∧ Aside0 (ArrAt wr B 102 ((((openG l0_1).zip l1).take k).foldl addOut (sumsF l0_1))) ∧ Aside0 (Below B w4 wr)) (fun v _ => l1.length - (intOf v).toNat)
    case atStart => exact ⟨0, Nat.zero_le _, rfl, ⟨by rw [List.take_zero, List.foldl_nil, HY.out, ← HBB.out]; exact ArrAt.new w4 [y0, y1, y2, y3, y4, y5] 102⟩, ⟨by rw [← HBB.out]; exact below_alloc (Below.refl _ _) _⟩⟩
    case round =>
     obtain ⟨k, hk, rfl, hA, hB4⟩ := hrel
     have HBW : Aside0 (Below w.heap.size w wr) := ⟨HB4.out.trans (hB4.out.mono (by omega))⟩
     by_cases hlt : k < l1.length
     ·
      have hlo : k < (openG l0_1).length := by rw [← HLEN.out]; exact hlt
      obtain ⟨ad, e1, q0⟩ := Kd.at_int (Kd.C_below HR1.out HBW.out) (k : Int) (by omega) (by omega)
      cases e1
      rw [Int.toNat_natCast] at q0
      obtain ⟨ag, e2, g0, g1, _, _, _⟩ := at_T85 (Kd.C_below (Kd.R_reads' HO4.out).2.2 (by rw [HBB.out]; exact hB4.out)) (k : Int) (by omega) (by omega)
      cases e2
      rw [Int.toNat_natCast] at g0 g1
      have HX := Lib.hid (afterSum_to l0_1 l1 k hlo hlt)
      have hso : sound ((openG l0_1).getD k z85) := HSO.out _ (List.mem_filter.1 (show (openG l0_1).getD k z85 ∈ l0_1.filter (·.f4) by rw [List.getD_eq_getElem?_getD, List.getElem?_eq_getElem hlo]; exact List.getElem_mem hlo)).1
      have hou : outB (l1.getD k 0) = true := List.all_eq_true.1 HALL.out _ (by rw [List.getD_eq_getElem?_getD, List.getElem?_eq_getElem hlt]; exact List.getElem_mem hlt)
      obtain ⟨x, hx⟩ : ∃ x, (openG l0_1).getD k z85 = x := ⟨_, rfl⟩
      obtain ⟨o, ho⟩ : ∃ o, l1.getD k 0 = o := ⟨_, rfl⟩
      have hx2 : rd_T85 (openG l0_1) ↑k = x := hx
      have ho2 : rd l1 ↑k = o := ho
      rw [hx2] at g0 g1
      rw [ho2] at q0
      have HX1 := Lib.hid hx
      have HX2 := Lib.hid ho
      rw [hx] at hso
      rw [ho] at hou
      clear hx hx2 ho ho2
      obtain ⟨a1, a2, a3, a4, a5⟩ := hso
      have HN := Lib.hid a5
      have ho1 : 1 ≤ o ∧ o ≤ 3 := by unfold outB at hou; simpa using hou
      obtain ⟨o1, o2⟩ := ho1
      clear a5 hou
      obtain ⟨xs, hxs⟩ : ∃ xs, (((openG l0_1).zip l1).take k).foldl addOut (sumsF l0_1) = xs := ⟨_, rfl⟩
      have hlen : xs.length = 6 := by rw [← hxs]; exact afterSum_length _ _
      have HL := Lib.hid hlen
      have HXS := Lib.hid hxs
      rw [hxs] at hA
      clear hxs hlen
      have d0 := hA.out.cell x.f0.toNat (by rw [HL.out]; omega)
      have d1 := hA.out.cell x.f1.toNat (by rw [HL.out]; omega)
      have f0 := hA.out.frozen x.f0.toNat
      have f1 := hA.out.frozen x.f1.toNat
      have ne : x.f0.toNat ≠ x.f1.toNat := by have := HN.out; omega
      have ne2 : x.f1.toNat ≠ x.f0.toNat := by have := HN.out; omega
      have nb : (ag.add (k * 5)).block ≠ B := by
       obtain ⟨ag', e3, h30, _⟩ := at_T85 (Kd.R_reads' HO4.out).2.2 (k : Int) (by omega) (by omega)
       cases e3
       rw [Int.toNat_natCast] at h30
       have h1 := World.block_lt_of_cell? w4 _ h30
       have h2 := HBB.out
       omega
      have hq : ∀ u : Value, (wr.setCell ⟨B, x.f0.toNat, none⟩ u).cell? ⟨(ag.add (k * 5)).block, (ag.add (k * 5)).off + 1, none⟩ = some (.int .i64 x.f1) := fun u =>
       (World.cell?_of_block (a := ⟨(ag.add (k * 5)).block, (ag.add (k * 5)).off + 1, none⟩) (Below.heap_setCell wr ⟨B, x.f0.toNat, none⟩ u _ nb)).trans g1
      go_wp2
      go_roundw
      case rel =>
       refine ⟨k + 1, by omega, by go_num, ⟨?_⟩, ⟨?_⟩⟩
       ·
        rw [HX.out, HX1.out, HX2.out, HXS.out]
        have h1 := (hA.out.set x.f0.toNat (wrap64 (xs[x.f0.toNat]?.getD 0 + (3 - o)))).set x.f1.toNat (wrap64 (xs[x.f1.toNat]?.getD 0 + (o - 1)))
        unfold addOut addAt
        simp only [List.getD_eq_getElem?_getD, List.getElem?_set_ne ne]
        exact h1
       ·
        exact (hB4.out.setCell (by simp) _).setCell (by simp) _
      case measure => simp [intOf]; omega
     ·
      obtain rfl : k = l1.length := by omega
      have HT : Hid (((openG l0_1).zip l1).take l1.length = (openG l0_1).zip l1) := List.take_of_length_le (by rw [List.length_zip]; omega)
      have hxs : ((openG l0_1).zip l1).foldl addOut (sumsF l0_1) = afterSum l0_1 l1 := rfl
      rw [HT.out, hxs] at hA
      have hl6 : (afterSum l0_1 l1).length = 6 := afterSum_length _ _
      obtain ⟨xs, hxx⟩ : ∃ xs, afterSum l0_1 l1 = xs := ⟨_, rfl⟩
      rw [hxx] at hA hl6
      have HXX := Lib.hid hxx
      have HL6 := Lib.hid hl6
      have hn := HOK.out
      obtain ⟨_, n2, n6, _⟩ := hn
      have hb : w.heap.size < w4.heap.size := blk_lt HBOX4.out
      have u0 : wr.cell? ⟨w.heap.size, 0, none⟩ = some (.int .i64 a0_0) := (hB4.out.cell (by show w.heap.size < B; exact hBW)).trans (blk_cell HBOX4.out 0)
      clear hxs hxx hl6
      have hsl : ∀ W, (Instr.sliceAt 102 (.pointer (some ⟨B, 0, none⟩)) none (some (.int .i64 a0_0)) none).run Try.prog W = .ok (.slice (some ⟨B, 0, none⟩) a0_0.toNat 6) W := by
       intro W
       rw [run_sliceAt_array_h W 102 ⟨B, 0, none⟩ (by rfl) .i64 a0_0 (by omega) (by show a0_0 ≤ 6; exact n6)]
       go_simp
      have hlt : (xs.take a0_0.toNat).length = a0_0.toNat := by rw [List.length_take]; have := HL6.out; omega
      have HCL : Hid (∀ W, ArrAt W B 102 xs → Calls Try.prog 62 #[.slice (some ⟨B, 0, none⟩) a0_0.toNat 6] W fun e w' => ∃ v0_ : Value, e = .returned v0_ ∧ Kd.R (Kd.int .i64) 3 w' W.heap.size (fun _ => True) v0_ (xs.take a0_0.toNat) ∧ Below W.heap.size W w') := by
       intro W hW
       have := cloneI_calls (some ⟨B, 0, none⟩) 6 (xs.take a0_0.toNat) W (ArrAt.C hW _ (by rw [HL6.out]; omega) (by rw [HL6.out]; omega)) (by omega)
       rw [hlt] at this
       exact this
      clear hlt
      go_wp2_with (go_at_call 62; (with_reducible refine (HCL.out _ hA.out).mono ?_); rintro e w5 ⟨v5, rfl, ho5, hb5⟩)
      go_ret2
      refine ⟨_, rfl, ?_, HBW.out.trans (hb5.mono (below_size HBW.out))⟩
      have := Kd.R_lower ho5 (below_size HBW.out)
      rw [HXX.out]
      exact this
  ·
   rw [if_pos (.inl hlen)] at h'
   obtain ⟨rfl, rfl⟩ := Prod.mk.inj h'
   have hlb : ((l1.length : Int) != ((openG l0_1).length : Int)) = true := by rw [bne_iff_ne]; omega
   have hlb2 : (l1.length != (openG l0_1).length) = true := by rw [bne_iff_ne]; omega
   clear hlen h'
   go_enter Try.func25, Try.ntmps25
   go_wp2_with (first | (go_at_call 17; (with_reducible refine (league_CheckLeague.calls a0_0 A0_1 c0_1 l0_1 0 _ ?hr HC.out ?hh).mono ?_); (case hr => exact Kd.C_alloc HR.out _); (case hh => exact congrArg some H0.out); rintro e w1 ⟨rfl, hb1⟩; have hbox : w1.heap[w.heap.size]? = some (.cells #[.int .i64 a0_0, .slice A0_1 l0_1.length c0_1] 32 (0, 0)) := (hb1.block _ (by simp)).trans (blk_new _ _); have x0 := blk_cell hbox 0; have x1 := blk_cell hbox 1; have HBOX := Aside0.mk hbox; clear hbox; have HB1 := Aside0.mk (below_then (HW.out _) (by simp) hb1); clear hb1) | (go_at_call 59; (with_reducible refine (open_calls a0_0 A0_1 c0_1 l0_1 _ ?hr ?hl).mono ?_); (case hr => exact Kd.C_below HR.out HB1.out); (case hl => have := HOK.out.1; omega); rintro e w2 ⟨v2, rfl, ho2, hb2⟩; obtain ⟨Ao, co, rfl⟩ := Kd.R_slice ho2; have HO2 := Aside0.mk ho2; clear ho2; have HBOX2 := Aside0.mk (blk_below HBOX.out hb2); have z0 := blk_cell HBOX2.out 0; have z1 := blk_cell HBOX2.out 1; have HB2 := Aside0.mk (below_then HB1.out (below_size HB1.out) hb2); clear hb2))
   go_ret2
   exact ⟨_, rfl, Kd.R_nil _ _ _ _ _, HB2.out⟩
 ·
  rw [if_pos h0] at h'
  obtain ⟨rfl, rfl⟩ := Prod.mk.inj h'
  have HE : Hid (league_CheckLeague.f a0_0 l0_1 = some (checkF a0_0 l0_1)) := rfl
  have hne : (checkF a0_0 l0_1 != 0) = true := bne_iff_ne.2 h0
  clear h' h0
  go_enter Try.func25, Try.ntmps25
  go_wp2_with (go_at_call 17; (with_reducible refine (league_CheckLeague.calls a0_0 A0_1 c0_1 l0_1 (checkF a0_0 l0_1) _ ?hr HC.out HE.out).mono ?_); (case hr => exact Kd.C_alloc HR.out _); rintro e w1 ⟨rfl, hb1⟩)
  go_ret2
  exact ⟨_, rfl, Kd.R_nil _ _ _ _ _, below_then (HW.out _) (by simp) hb1⟩
end Go.Proofs.Ytmnamkcjldaoeaa.PAll
