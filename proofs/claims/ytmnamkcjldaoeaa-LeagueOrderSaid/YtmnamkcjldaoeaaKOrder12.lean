/- Parts of the proof of leagueOrder_holds, in order: HRace, HUses, HMost, HLay0 -/
import Derived.Test.YtmnamkcjldaoeaaKOrder3
import Derived.Test.YtmnamkcjldaoeaaKOrder6
import Derived.Test.YtmnamkcjldaoeaaKOrder11
import Derived.Deep.RegionWith
namespace Go.Proofs.Ytmnamkcjldaoeaa.PAll
open Go.RowKit Go.Proofs.YtmnamkcjldaoeaaW.PrintWords Go.Proofs.YtmnamkcjldaoeaaW.PrintLast Go.Proofs.YtmnamkcjldaoeaaW.PrintMore
set_option linter.unusedVariables false
set_option linter.unusedSimpArgs false
theorem C85_same {w w1 : World} {A : Option Addr} {n : Nat} {xs : List S85} (h : Kd.C k85 w A n xs) (hs : ∀ ad, A = some ad → w1.heap[ad.block]? = w.heap[ad.block]?) : Kd.C k85 w1 A n xs := by
 obtain ⟨h1, h2, h3⟩ := h
 refine ⟨h1, h2, fun hp => ?_⟩
 obtain ⟨ad, rfl, h4⟩ := h3 hp
 refine ⟨ad, rfl, fun j p hj => ?_⟩
 obtain ⟨c, hl, hK, hc⟩ := h4 j p hj
 refine ⟨c, hl, ?_, fun i u hu => ?_⟩
 ·
  obtain rfl := k85_open hK
  exact k85_mk w1 p
 ·
  have hq := hc i u hu
  have hb : (ad.add (j * k85.sz + i)).block = ad.block := by unfold Addr.add; split <;> rfl
  exact (World.cell?_of_block (a := ad.add (j * k85.sz + i)) (hb ▸ hs ad rfl)).trans hq
theorem below_storer {B : Nat} {w w1 : World} (h : Below B w w1) (b i : Nat) (hb : B ≤ b) (v : Value) : Below B w (w1.setCell ⟨b, i, none⟩ v) := h.setCell hb v
def raceV (team reach : Int) (ys : List Int) (o g : Value) : Array Value := (Value.int .i64 team :: Value.int .i64 reach :: (ys.map (Value.int .i64) ++ [o, g])).toArray
def RaceAt (w : World) (b : Nat) (team reach : Int) (ys : List Int) (o g : Value) : Prop := ys.length = 6 ∧ w.heap[b]? = some (.cells (raceV team reach ys o g) 123 (0, 0))
section
variable {w w1 : World} {b : Nat} {team reach : Int} {ys : List Int} {o g : Value}
theorem RaceAt.c0 (h : RaceAt w b team reach ys o g) : w.cell? ⟨b, 0, none⟩ = some (.int .i64 team) := (blk_cell h.2 0).trans (by simp [raceV])
theorem RaceAt.c1 (h : RaceAt w b team reach ys o g) : w.cell? ⟨b, 1, none⟩ = some (.int .i64 reach) := (blk_cell h.2 1).trans (by simp [raceV])
theorem RaceAt.cs (h : RaceAt w b team reach ys o g) (i : Nat) (hi : i < 6) : w.cell? ⟨b, 2 + i, none⟩ = some (.int .i64 (ys.getD i 0)) := by
 have hl := h.1
 refine (blk_cell h.2 (2 + i)).trans ?_
 rw [Nat.add_comm]
 simp only [raceV, List.getElem?_toArray, List.getElem?_cons_succ]
 rw [List.getElem?_append_left (by simp; omega)]
 simp [hl, hi]
theorem RaceAt.c8 (h : RaceAt w b team reach ys o g) : w.cell? ⟨b, 8, none⟩ = some o := by
 refine (blk_cell h.2 8).trans ?_
 simp only [raceV, List.getElem?_toArray, List.getElem?_cons_succ]
 rw [List.getElem?_append_right (by simp [h.1])]
 simp [h.1]
theorem RaceAt.c9 (h : RaceAt w b team reach ys o g) : w.cell? ⟨b, 9, none⟩ = some g := by
 refine (blk_cell h.2 9).trans ?_
 simp only [raceV, List.getElem?_toArray, List.getElem?_cons_succ]
 rw [List.getElem?_append_right (by simp [h.1])]
 simp [h.1]
theorem RaceAt.frozen (h : RaceAt w b team reach ys o g) (i : Nat) : w.frozen? ⟨b, i, none⟩ = false := blk_frozen h.2 i
theorem RaceAt.below (h : RaceAt w b team reach ys o g) (hb : Below w.heap.size w w1) : RaceAt w1 b team reach ys o g := ⟨h.1, blk_below h.2 hb⟩
theorem RaceAt.same (h : RaceAt w b team reach ys o g) (hb : w1.heap[b]? = w.heap[b]?) : RaceAt w1 b team reach ys o g := ⟨h.1, hb.trans h.2⟩
theorem RaceAt.lt (h : RaceAt w b team reach ys o g) : b < w.heap.size := blk_lt h.2
theorem RaceAt.set1 (h : RaceAt w b team reach ys o g) (v : Int) : RaceAt (w.setCell ⟨b, 1, none⟩ (.int .i64 v)) b team v ys o g := by
 refine ⟨h.1, ?_⟩
 have := blk_set h.2 1 (.int .i64 v)
 rw [show (raceV team reach ys o g).setIfInBounds 1 (.int .i64 v) = raceV team v ys o g from by simp [raceV]] at this
 exact this
theorem RaceAt.set9 (h : RaceAt w b team reach ys o g) (v : Value) : RaceAt (w.setCell ⟨b, 9, none⟩ v) b team reach ys o v := by
 refine ⟨h.1, ?_⟩
 have := blk_set h.2 9 v
 rw [show (raceV team reach ys o g).setIfInBounds 9 v = raceV team reach ys o v from by
  simp only [raceV, List.setIfInBounds_toArray, List.set_cons_succ]
  rw [List.set_append_right _ _ (by simp [h.1])]
  simp [h.1]] at this
 exact this
end
def reachStep (team : Int) (r : Int) (x : S85) : Int := if x.f0 = team ∨ x.f1 = team then wrap64 (r + 2) else r
def reachF (l : List S85) (team : Int) : Int := (openG l).foldl (reachStep team) ((sumsF l).getD team.toNat 0)
theorem reach_succ (l : List S85) (team : Int) (y : Int) (k : Nat) (hk : k < l.length) : (l.take (k + 1)).foldl (reachStep team) y = reachStep team ((l.take k).foldl (reachStep team) y) (l.getD k z85) := by
 rw [List.take_succ_eq_append_getElem hk, List.foldl_append, List.getD_eq_getElem?_getD, List.getElem?_eq_getElem hk]
 simp only [List.foldl_cons, List.foldl_nil, Option.getD_some]
set_option maxRecDepth 100000 in
set_option maxHeartbeats 4000000 in
theorem race_calls (n : Int) (A : Option Addr) (c : Nat) (l : List S85) (team : Int) (w : World) (hr : Kd.C k85 w A l.length l) (hl : l.length ≤ 20) (hs : ∀ g ∈ l, sound g) (ht : 0 ≤ team) (ht6 : team < 6) :
  Calls Try.prog 70 #[.agg #[.int .i64 n, .slice A l.length c], .int .i64 team] w fun e w' => ∃ b Ao co, e = .returned (.pointer (some ⟨b, 0, none⟩)) ∧ w.heap.size ≤ b ∧ RaceAt w' b team (reachF l team) (sumsF l) (.slice Ao (openG l).length co) (.slice none 0 0) ∧ Kd.C k85 w' Ao (openG l).length (openG l) ∧ (∀ ad, Ao = some ad → ad.block < b) ∧ Below w.heap.size w w' := by
 have HR := Aside0.mk hr
 have HS := Lib.hid hs
 have HW := Aside0.mk (show ∀ o, Below w.heap.size w (w.alloc o) from fun o => below_alloc (Below.refl _ _) o)
 have HWD := Aside0.mk (show ∀ o, Below w.heap.size w (w.alloc o).drew from fun o => below_drew1 (below_alloc (Below.refl _ _) o))
 clear hr hs
 have hol : (openG l).length ≤ 20 := Nat.le_trans (List.length_filter_le _ _) hl
 obtain ⟨y0, y1, y2, y3, y4, y5, hy⟩ := six_of (sumsF_length l)
 have HY := Lib.hid hy
 have HSUM : Hid (∀ W, Below w.heap.size w W → Calls Try.prog 61 #[.agg #[.int .i64 n, .slice A l.length c]] W fun e w' => e = .returned (.agg #[.int .i64 y0, .int .i64 y1, .int .i64 y2, .int .i64 y3, .int .i64 y4, .int .i64 y5]) ∧ Below W.heap.size W w') := by
  intro W hW
  have := sums_calls n A c l W (Kd.C_below HR.out hW) HS.out
  rw [hy] at this
  exact this
 clear hy
 go_enter Try.func70, Try.ntmps70
 go_upto_region 1 with fail
 go_cut [5] from 8 (fun s5 wc => ∃ B Ao co, s5 = .pointer (some ⟨B, 0, none⟩) ∧ Aside0 (w.heap.size ≤ B) ∧ Aside0 (RaceAt wc B team 0 (sumsF l) (.slice Ao (openG l).length co) (.slice none 0 0)) ∧ Aside0 (Kd.C k85 wc Ao (openG l).length (openG l)) ∧ Aside0 (∀ ad, Ao = some ad → ad.block < B) ∧ Aside0 (Below w.heap.size w wc))
 case first =>
  go_region_with (first | (go_at_call 61; (with_reducible refine (HSUM.out _ ?h1).mono ?_); (case h1 => exact HWD.out _); rintro e w1 ⟨rfl, hb1⟩; have hbox : w1.heap[w.heap.size]? = some (.cells #[.int .i64 n, .slice A l.length c] 32 (0, 0)) := (hb1.block _ (by simp)).trans (blk_new _ _); have x0 := blk_cell hbox 0; have x1 := blk_cell hbox 1; have HBOX := Aside0.mk hbox; clear hbox; have HB1 := Aside0.mk (below_then (HWD.out _) (by simp) hb1); clear hb1) | (go_at_call 59; (with_reducible refine (open_calls n A c l _ ?hr ?hl).mono ?_); (case hr => exact Kd.C_below HR.out HB1.out); (case hl => omega); rintro e w2 ⟨v2, rfl, ho2, hb2⟩; obtain ⟨Ao, co, rfl⟩ := Kd.R_slice ho2; have HO2 := Aside0.mk ho2; clear ho2; have HBOX2 := Aside0.mk (blk_below HBOX.out hb2); have z0 := blk_cell HBOX2.out 0; have z1 := blk_cell HBOX2.out 1; have HB2 := Aside0.mk (below_then HB1.out (below_size HB1.out) hb2); clear hb2))
  all_goals (go_wp2_with fail; go_meet)
  all_goals exact ⟨_, Ao, co, rfl, ⟨below_size HB2.out⟩, ⟨sumsF_length l, by rw [HY.out]; exact blk_new _ _⟩, ⟨Kd.C_alloc (Kd.R_reads' HO2.out).2.2 _⟩, ⟨fun ad e => Kd.R_lt HO2.out _ (by rw [e]; rfl)⟩, ⟨below_alloc HB2.out _⟩⟩
 case rest =>
  obtain ⟨B, Ao, co, rfl, HB, HA, HO, HL, HW1⟩ := hcut
  obtain ⟨ys, hys⟩ : ∃ ys, sumsF l = ys := ⟨_, rfl⟩
  have HYS := Lib.hid hys
  rw [hys] at HA
  clear hys
  have e8 := HA.out.c8
  have e1 := HA.out.c1
  have et := HA.out.cs team.toNat (by omega)
  have fr := HA.out.frozen 1
  obtain ⟨y, hyy⟩ : ∃ y, ys.getD team.toNat 0 = y := ⟨_, rfl⟩
  have HYY := Lib.hid hyy
  rw [hyy] at et
  clear hyy
  have q8 : ∀ u : Int, (wc.setCell ⟨B, 1, none⟩ (.int .i64 u)).cell? ⟨B, 8, none⟩ = some (.slice Ao (openG l).length co) := fun u => (HA.out.set1 u).c8
  go_wp2
  go_loopw [29] (fun v wr => ∃ k : Nat, k ≤ (openG l).length ∧ v = .int .i64 k ∧ Aside0 (RaceAt wr B team (((openG l).take k).foldl (reachStep team) y) ys (.slice Ao (openG l).length co) (.slice none 0 0)) ∧ Aside0 (Below B wc wr)) (fun v _ => (openG l).length - (intOf v).toNat)
  case atStart => exact ⟨0, Nat.zero_le _, rfl, ⟨HA.out.set1 _⟩, ⟨(Below.refl B wc).setCell (by simp) _⟩⟩
  case round =>
   obtain ⟨k, hk, rfl, hA, hB⟩ := hrel
   have HBL : Aside0 (B < wc.heap.size) := ⟨HA.out.lt⟩
   by_cases hlt : k < (openG l).length
   ·
    have hC := C85_same (w1 := wr) HO.out (fun ad e => hB.out.block _ (HL.out ad e))
    obtain ⟨ag, e2, g0, g1, g2, g3, g4⟩ := at_T85 hC (k : Int) (by omega) (by omega)
    cases e2
    simp only [Int.toNat_natCast] at g0 g1 g2 g3 g4
    have HX := Lib.hid (reach_succ (openG l) team y k hlt)
    have hx : rd_T85 (openG l) ↑k = (openG l).getD k z85 := rfl
    obtain ⟨x, hxx⟩ : ∃ x, rd_T85 (openG l) ↑k = x := ⟨_, rfl⟩
    have HX2 : Hid ((openG l).getD k z85 = x) := hxx
    rw [hxx] at g0 g1 g2 g3 g4
    clear hx hxx hC
    obtain ⟨R, hR⟩ : ∃ R, ((openG l).take k).foldl (reachStep team) y = R := ⟨_, rfl⟩
    have HRR := Lib.hid hR
    rw [hR] at hA
    clear hR
    have hBlt : B < wr.heap.size := hA.out.lt
    have r1 := hA.out.c1
    have rf := hA.out.frozen 1
    have ne : B ≠ wr.heap.size := by omega
    have HN := Aside0.mk (show ∀ o, RaceAt (wr.alloc o) B team R ys (.slice (some ag) (openG l).length co) (.slice none 0 0) from fun o => hA.out.below (below_alloc (Below.refl _ _) o))
    have HBN := Aside0.mk (show ∀ o, Below B wc (wr.alloc o) from fun o => hB.out.alloc (by omega) o)
    by_cases c1 : x.f0 = team
    ·
     have b1 : (x.f0 == team) = true := beq_iff_eq.2 c1
     have HC1 := Lib.hid c1
     clear c1
     go_wp2
     go_roundw
     case rel =>
      refine ⟨k + 1, by omega, by go_num, ⟨?_⟩, ⟨?_⟩⟩
      ·
       rw [HX.out, HX2.out, HRR.out]
       unfold reachStep
       rw [if_pos (.inl HC1.out)]
       exact (hA.out.set1 _).below (below_alloc (Below.refl _ _) _)
      ·
       exact (below_storer hB.out B 1 (Nat.le_refl B) _).alloc (by simp; omega) _
     case measure => simp [intOf]; omega
    ·
     have b1 : (x.f0 == team) = false := beq_eq_false_iff_ne.2 c1
     have HC1 := Lib.hid c1
     clear c1
     by_cases c2 : x.f1 = team
     ·
      have b2 : (x.f1 == team) = true := beq_iff_eq.2 c2
      have HC2 := Lib.hid c2
      clear c2
      go_wp2
      go_roundw
      case rel =>
       refine ⟨k + 1, by omega, by go_num, ⟨?_⟩, ⟨?_⟩⟩
       ·
        rw [HX.out, HX2.out, HRR.out]
        unfold reachStep
        rw [if_pos (.inr HC2.out)]
        exact (hA.out.set1 _).below (below_alloc (Below.refl _ _) _)
       ·
        exact (below_storer hB.out B 1 (Nat.le_refl B) _).alloc (by simp; omega) _
      case measure => simp [intOf]; omega
     ·
      have b2 : (x.f1 == team) = false := beq_eq_false_iff_ne.2 c2
      have HC2 := Lib.hid c2
      clear c2
      go_wp2
      go_roundw
      case rel =>
       refine ⟨k + 1, by omega, by go_num, ⟨?_⟩, ⟨?_⟩⟩
       ·
        rw [HX.out, HX2.out, HRR.out]
        unfold reachStep
        rw [if_neg (by rintro (h | h); exact HC1.out h; exact HC2.out h)]
        exact HN.out _
       ·
        exact HBN.out _
      case measure => simp [intOf]; omega
   ·
    obtain rfl : k = (openG l).length := by omega
    go_wp2
    refine bodyPost_ret (v := .pointer (some ⟨B, 0, none⟩)) (by simp [results, Try.results70, go_sem]) rfl ⟨B, Ao, co, rfl, HB.out, ?_, C85_same HO.out (fun ad e => hB.out.block _ (HL.out ad e)), HL.out, HW1.out.trans (hB.out.mono HB.out)⟩
    have := hA.out
    rw [List.take_length] at this
    unfold reachF
    rw [HYS.out, HYY.out]
    exact this
end Go.Proofs.Ytmnamkcjldaoeaa.PAll
namespace Go.Proofs.Ytmnamkcjldaoeaa.PAll
open Go.RowKit Go.Proofs.YtmnamkcjldaoeaaW.PrintWords Go.Proofs.YtmnamkcjldaoeaaW.PrintLast Go.Proofs.YtmnamkcjldaoeaaW.PrintMore
set_option linter.unusedVariables false
set_option linter.unusedSimpArgs false
def rowF (u : List Int) (t h : Nat) : List Int := (u.drop (t * 3)).take h
def unevenTo (u : List Int) (h : Nat) : Nat → Int
 | 0 => 0
 | t + 1 => maxF [unevenTo u h t, wrap64 (maxF (rowF u t h) - minF (rowF u t h))]
theorem arr_row {w : World} {b ty : Nat} {u : List Int} (h : ArrAt w b ty u) (t k : Nat) (hl : t * 3 + k ≤ u.length) (hk : k ≤ 1000) : Kd.C (Kd.int .i64) w (some ⟨b, t * 3, none⟩) (rowF u t k).length (rowF u t k) := by
 have hlen : (rowF u t k).length = k := by simp [rowF]; omega
 refine Kd.C_of_reads (d := 0) ⟨rfl, by omega, fun _ => ⟨_, rfl, fun j hj => ?_⟩⟩
 have e : (⟨b, t * 3, none⟩ : Addr).add j = ⟨b, t * 3 + j, none⟩ := by unfold Addr.add; split <;> simp_all
 rw [e]
 have hj2 : j < k := by omega
 rw [h.cell (t * 3 + j) (by omega)]
 simp [rowF, List.getElem?_take, hj2]
theorem arr_all {w : World} {b ty : Nat} {u : List Int} (h : ArrAt w b ty u) (hl : u.length ≤ 1000) : Kd.C (Kd.int .i64) w (some ⟨b, 0, none⟩) u.length u := by
 have := ArrAt.C h u.length (Nat.le_refl _) (by omega)
 rw [List.take_length] at this
 exact this
theorem halls_calls (n : Int) (h : Nat) (hh : wrap64 (Int.tdiv n 2) = h) (w : World) : Calls Try.prog 99 #[.int .i64 n] w fun e w' => e = .returned (.int .i64 h) ∧ Drawn0 w w' :=
 league_halls.calls n h w (by unfold league_halls.f; rw [hh])
set_option maxRecDepth 100000 in
set_option maxHeartbeats 4000000 in
theorem uneven_calls (n : Int) (h : Nat) (hh : wrap64 (Int.tdiv n 2) = h) (h1 : 1 ≤ h) (h3 : h ≤ 3) (n2 : 2 ≤ n) (n6 : n ≤ 6) (u : List Int) (hu : u.length = 18) (w : World) :
  Calls Try.prog 67 #[.agg (arrV u), .int .i64 n] w fun e w' => e = .returned (.int .i64 (unevenTo u h n.toNat)) ∧ Below w.heap.size w w' := by
 have HH := Lib.hid hh
 have HU := Lib.hid hu
 have HA : Aside0 (∀ W, Below (w.heap.size + 1) (w.alloc (.cells (arrV u) 110)) W → ArrAt W w.heap.size 110 u) := ⟨fun W hb => (hb.block _ (by omega)).trans (blk_new _ _)⟩
 clear hh hu
 go_enter Try.func67, Try.ntmps67
 go_wp2
 go_loopw [9, 5] (fun v s wr => ∃ k : Nat, (k : Int) ≤ n ∧ v = .int .i64 k ∧ s = .int .i64 (unevenTo u h k) ∧ Aside0 (Below (w.heap.size + 1) (w.alloc (.cells (arrV u) 110)) wr)) (fun v _ _ => (n - intOf v).toNat)
 case atStart => exact ⟨0, by omega, rfl, rfl, ⟨Below.refl _ _⟩⟩
 case round =>
  obtain ⟨k, hk, rfl, rfl, hB⟩ := hrel
  by_cases hlt : (k : Int) < n
  ·
   have k0 : (0:Int) ≤ (k : Int) := by omega
   have k6 : (k : Int) < 6 := by omega
   have hsl : ∀ W, (Instr.sliceAt 108 (.pointer (some ⟨w.heap.size, k * 3, none⟩)) none (some (.int .i64 h)) none).run Try.prog W = .ok (.slice (some ⟨w.heap.size, k * 3, none⟩) h 3) W := by
    intro W
    rw [run_sliceAt_array_h W 108 ⟨w.heap.size, k * 3, none⟩ (by rfl) .i64 h (by omega) (by show (h : Int) ≤ 3; omega)]
    go_simp
   go_upto_region 5 with fail
   go_quiet (first | (go_at_call 99; (with_reducible refine (halls_calls n h HH.out _).mono ?_); rintro e w' ⟨rfl, ⟨nd, rfl⟩⟩; (try first | exact ⟨rfl, _, World.drewN_drewN _ _ _⟩ | exact ⟨rfl, _, Eq.trans (World.drewN_drewN _ _ _) (congrArg (World.drewN _) (Nat.add_assoc _ _ _))⟩)))
   have hrl : (rowF u k h).length = h := by simp [rowF, HU.out]; omega
   have hcr : Kd.C (Kd.int .i64) wr (some ⟨w.heap.size, k * 3, none⟩) (rowF u k h).length (rowF u k h) := arr_row (HA.out _ hB.out) k h (by rw [HU.out]; omega) (by omega)
   have hmx := fun (m : Nat) => max_calls (some ⟨w.heap.size, k * 3, none⟩) 3 (rowF u k h) (wr.drewN m) (Kd.C_drewN hcr m) (by omega)
   have hmn := fun (m : Nat) => min_calls (some ⟨w.heap.size, k * 3, none⟩) 3 (rowF u k h) (wr.drewN m) (Kd.C_drewN hcr m) (by omega)
   rw [hrl] at hmx hmn
   have HMX := Lib.hid hmx
   have HMN := Lib.hid hmn
   have HGR : Hid (∀ m, Calls Try.prog 86 #[.slice (some ⟨wr.heap.size, 0, none⟩) 2 2] ((wr.drewN m).alloc (.cells #[.int .i64 (unevenTo u h k), .int .i64 (wrap64 (maxF (rowF u k h) - minF (rowF u k h)))] 3)) fun e w' => e = .returned (.int .i64 (unevenTo u h (k + 1))) ∧ ((wr.drewN m).alloc (.cells #[.int .i64 (unevenTo u h k), .int .i64 (wrap64 (maxF (rowF u k h) - minF (rowF u k h)))] 3)) = w') :=
    fun m => greatest_calls (some ⟨wr.heap.size, 0, none⟩) 2 [unevenTo u h k, wrap64 (maxF (rowF u k h) - minF (rowF u k h))] _ (arr_all (b := wr.heap.size) (ty := 3) (blk_new (wr.drewN m) _) (by simp)) (by simp)
   clear hrl hcr hmx hmn
   go_wp2_with (first | (go_at_call 100; (with_reducible refine (HMX.out _).mono ?_); rintro e w1 ⟨rfl, rfl⟩) | (go_at_call 101; (with_reducible refine (HMN.out _).mono ?_); rintro e w1 ⟨rfl, rfl⟩) | (go_at_call 86; (with_reducible refine (HGR.out _).mono ?_); rintro e w1 ⟨rfl, rfl⟩))
   go_roundw
   case rel => exact ⟨k + 1, by omega, by go_num, rfl, ⟨(pw_below_drewN hB.out _).alloc (by have := hB.out.size; simp at this; simpa using this) _⟩⟩
   case measure => simp [intOf]; omega
  ·
   obtain rfl : (k : Int) = n := by omega
   go_wp2
   refine bodyPost_ret (v := .int .i64 (unevenTo u h k)) (by simp [results, Try.results67, go_sem]) rfl ⟨by simp, ?_⟩
   exact (below_alloc (Below.refl w.heap.size w) _).trans (hB.out.mono (by omega))
end Go.Proofs.Ytmnamkcjldaoeaa.PAll
namespace Go.Proofs.Ytmnamkcjldaoeaa.PAll
open Go.RowKit Go.Proofs.YtmnamkcjldaoeaaW.PrintWords Go.Proofs.YtmnamkcjldaoeaaW.PrintLast Go.Proofs.YtmnamkcjldaoeaaW.PrintMore
set_option linter.unusedVariables false
set_option linter.unusedSimpArgs false
def badB (n : Int) (h : Nat) (un many : Int) : Bool := decide (wrap64 (many - un) > wrap64 (Int.tdiv (wrap64 (n - 1 - many)) (maxF [1, (h : Int) - 1]))) && decide (1 < h)
def rowOk (n : Int) (h : Nat) (un : Int) (u : List Int) (t : Nat) : Bool := (rowF u t h).all fun many => !badB n h un many
def mostF (n : Int) (h : Nat) (un : Int) (u : List Int) : Bool := (List.range n.toNat).all (rowOk n h un u)
theorem below_allocB {B : Nat} {w w1 : World} (h : Below B w w1) (hB : B ≤ w.heap.size) (o : Obj) : Below B w (w1.alloc o) := h.alloc (Nat.le_trans hB h.size) o
set_option maxRecDepth 100000 in
set_option maxHeartbeats 4000000 in
theorem most_calls (n : Int) (h : Nat) (hh : wrap64 (Int.tdiv n 2) = h) (h1 : 1 ≤ h) (h3 : h ≤ 3) (n2 : 2 ≤ n) (n6 : n ≤ 6) (un : Int) (u : List Int) (hu : u.length = 18) (w : World) :
  Calls Try.prog 98 #[.agg (arrV u), .int .i64 n, .int .i64 un] w fun e w' => e = .returned (.bool (mostF n h un u)) ∧ Below w.heap.size w w' := by
 have HH := Lib.hid hh
 have HU := Lib.hid hu
 have HA : Aside0 (∀ W, Below (w.heap.size + 1) (w.alloc (.cells (arrV u) 110)) W → ArrAt W w.heap.size 110 u) := ⟨fun W hb => (hb.block _ (by omega)).trans (blk_new _ _)⟩
 have HFIN : Aside0 (∀ wr, Below (w.heap.size + 1) (w.alloc (.cells (arrV u) 110)) wr → Below w.heap.size w wr) := ⟨fun wr hB => (below_alloc (Below.refl w.heap.size w) _).trans (hB.mono (by omega))⟩
 clear hh hu
 go_enter Try.func98, Try.ntmps98
 go_wp2
 go_loopw [12] (fun v wr => ∃ k : Nat, (k : Int) ≤ n ∧ v = .int .i64 k ∧ Aside0 (∀ t, t < k → rowOk n h un u t = true) ∧ Aside0 (Below (w.heap.size + 1) (w.alloc (.cells (arrV u) 110)) wr)) (fun v _ => (n - intOf v).toNat)
 case atStart => exact ⟨0, by omega, rfl, ⟨fun t h => absurd h (Nat.not_lt_zero t)⟩, ⟨Below.refl _ _⟩⟩
 case round =>
  obtain ⟨k, hk, rfl, hT, hB⟩ := hrel
  by_cases hlt : (k : Int) < n
  ·
   have k0 : (0:Int) ≤ (k : Int) := by omega
   have k6 : (k : Int) < 6 := by omega
   have hsl : ∀ W, (Instr.sliceAt 108 (.pointer (some ⟨w.heap.size, k * 3, none⟩)) none (some (.int .i64 h)) none).run Try.prog W = .ok (.slice (some ⟨w.heap.size, k * 3, none⟩) h 3) W := by
    intro W
    rw [run_sliceAt_array_h W 108 ⟨w.heap.size, k * 3, none⟩ (by rfl) .i64 h (by omega) (by show (h : Int) ≤ 3; omega)]
    go_simp
   go_upto_region 4 with fail
   go_quiet (first | (go_at_call 99; (with_reducible refine (halls_calls n h HH.out _).mono ?_); rintro e w' ⟨rfl, ⟨nd, rfl⟩⟩; (try first | exact ⟨rfl, _, World.drewN_drewN _ _ _⟩ | exact ⟨rfl, _, Eq.trans (World.drewN_drewN _ _ _) (congrArg (World.drewN _) (Nat.add_assoc _ _ _))⟩)))
   have hrl : (rowF u k h).length = h := by simp [rowF, HU.out]; omega
   have HRL := Lib.hid hrl
   clear hrl hsl
   go_wp2
   go_loopw [21] (fun v wr => ∃ j : Nat, j ≤ h ∧ v = .int .i64 j ∧ Aside0 (∀ i, i < j → badB n h un ((rowF u k h).getD i 0) = false) ∧ Aside0 (Below (w.heap.size + 1) (w.alloc (.cells (arrV u) 110)) wr)) (fun v _ => h - (intOf v).toNat)
   case atStart => exact ⟨0, by omega, rfl, ⟨fun t h => absurd h (Nat.not_lt_zero t)⟩, ⟨pw_below_drewN hB.out _⟩⟩
   case round =>
    obtain ⟨j, hj, rfl, hJ, hB2⟩ := hrel
    by_cases hlj : j < h
    ·
     have j0 : (0:Int) ≤ (j : Int) := by omega
     have jh : (j : Int) < (h : Int) := by omega
     obtain ⟨x, hx⟩ : ∃ x, (rowF u k h).getD j 0 = x := ⟨_, rfl⟩
     have HX := Lib.hid hx
     have hc := (HA.out _ hB2.out).cell (k * 3 + j) (by rw [HU.out]; omega)
     have hxu : u.getD (k * 3 + j) 0 = x := by rw [← hx]; simp [rowF, List.getElem?_take, hlj]
     rw [hxu] at hc
     clear hxu hx
     obtain ⟨m, hm⟩ : ∃ m, maxF [1, (h : Int) - 1] = m := ⟨_, rfl⟩
     have HM := Lib.hid hm
     have hm1 : 1 ≤ m := by
      rw [← hm]
      show 1 ≤ mx 1 ((h : Int) - 1)
      unfold mx
      split <;> omega
     have hm2 : m ≠ 0 := by omega
     have HGR : Hid (∀ nd, Calls Try.prog 86 #[.slice (some ⟨wr.heap.size, 0, none⟩) 2 2] ((wr.drewN nd).alloc (.cells #[.int .i64 1, .int .i64 ((h : Int) - 1)] 3)) fun e w' => e = .returned (.int .i64 m) ∧ ((wr.drewN nd).alloc (.cells #[.int .i64 1, .int .i64 ((h : Int) - 1)] 3)) = w') := by
      intro nd
      have := greatest_calls (some ⟨wr.heap.size, 0, none⟩) 2 [1, (h : Int) - 1] ((wr.drewN nd).alloc (.cells #[.int .i64 1, .int .i64 ((h : Int) - 1)] 3)) (arr_all (b := wr.heap.size) (ty := 3) (blk_new (wr.drewN nd) _) (by simp)) (by simp)
      rw [hm] at this
      exact this
     clear hm
     have HBAD : Hid (badB n h un x = (decide (wrap64 (x - un) > wrap64 (Int.tdiv (wrap64 (n - 1 - x)) m)) && decide (1 < h))) := by show _ = _; unfold badB; rw [HM.out]
     by_cases hb1 : wrap64 (Int.tdiv (wrap64 (n - 1 - x)) m) < wrap64 (x - un)
     ·
      have hb1d : decide (wrap64 (Int.tdiv (wrap64 (n - 1 - x)) m) < wrap64 (x - un)) = true := decide_eq_true hb1
      have HB1 := Lib.hid hb1
      clear hb1
      by_cases hb2 : 1 < h
      ·
       have hb2d : decide ((1:Int) < (h : Int)) = true := decide_eq_true (by omega)
       have HB2 := Lib.hid hb2
       clear hb2
       go_wp2_with (first | (go_at_call 99; (with_reducible refine (halls_calls n h HH.out _).mono ?_); rintro e w1 ⟨rfl, ⟨nd, rfl⟩⟩) | (go_at_call 86; (with_reducible refine (HGR.out _).mono ?_); rintro e w1 ⟨rfl, rfl⟩))
       refine bodyPost_ret (v := .bool false) (by simp [results, Try.results98, go_sem]) rfl ⟨?_, HFIN.out _ (pw_below_drewN (below_allocB (pw_below_drewN hB2.out _) (by simp) _) _)⟩
       have hbad : badB n h un x = true := by rw [HBAD.out, decide_eq_true HB2.out, decide_eq_true HB1.out]; rfl
       have hro : rowOk n h un u k = false := by
        unfold rowOk
        rw [List.all_eq_false]
        refine ⟨x, ?_, by rw [hbad]; decide⟩
        rw [← HX.out, List.getD_eq_getElem?_getD, List.getElem?_eq_getElem (by rw [HRL.out]; exact hlj)]
        exact List.getElem_mem _
       have hmf : mostF n h un u = false := by
        unfold mostF
        rw [List.all_eq_false]
        exact ⟨k, by simp; omega, by rw [hro]; decide⟩
       rw [hmf]
      ·
       have hb2d : decide ((1:Int) < (h : Int)) = false := decide_eq_false (by omega)
       have HB2 := Lib.hid hb2
       clear hb2
       go_wp2_with (first | (go_at_call 99; (with_reducible refine (halls_calls n h HH.out _).mono ?_); rintro e w1 ⟨rfl, ⟨nd, rfl⟩⟩) | (go_at_call 86; (with_reducible refine (HGR.out _).mono ?_); rintro e w1 ⟨rfl, rfl⟩))
       go_roundw
       case rel =>
        refine ⟨j + 1, by omega, by go_num, ⟨fun i hi => ?_⟩, ⟨pw_below_drewN (below_allocB (pw_below_drewN hB2.out _) (by simp) _) _⟩⟩
        rcases Nat.lt_succ_iff_lt_or_eq.1 hi with h' | rfl
        ·
         exact hJ.out i h'
        ·
         rw [HX.out, HBAD.out, decide_eq_false HB2.out, Bool.and_false]
       case measure => simp [intOf]; omega
     ·
      have hb1d : decide (wrap64 (Int.tdiv (wrap64 (n - 1 - x)) m) < wrap64 (x - un)) = false := decide_eq_false hb1
      have HB1 := Lib.hid hb1
      clear hb1
      go_wp2_with (first | (go_at_call 99; (with_reducible refine (halls_calls n h HH.out _).mono ?_); rintro e w1 ⟨rfl, ⟨nd, rfl⟩⟩) | (go_at_call 86; (with_reducible refine (HGR.out _).mono ?_); rintro e w1 ⟨rfl, rfl⟩))
      go_roundw
      case rel =>
       refine ⟨j + 1, by omega, by go_num, ⟨fun i hi => ?_⟩, ⟨below_allocB (pw_below_drewN hB2.out _) (by simp) _⟩⟩
       rcases Nat.lt_succ_iff_lt_or_eq.1 hi with h' | rfl
       ·
        exact hJ.out i h'
       ·
        rw [HX.out, HBAD.out, decide_eq_false (show ¬ (wrap64 (x - un) > wrap64 (Int.tdiv (wrap64 (n - 1 - x)) m)) by have := HB1.out; omega), Bool.false_and]
      case measure => simp [intOf]; omega
    ·
     obtain rfl : j = h := by omega
     go_wp2
     go_roundw
     case rel =>
      refine ⟨k + 1, by omega, by go_num, ⟨fun t ht => ?_⟩, ⟨hB2.out⟩⟩
      rcases Nat.lt_succ_iff_lt_or_eq.1 ht with h' | rfl
      ·
       exact hT.out t h'
      ·
       unfold rowOk
       rw [List.all_eq_true]
       intro x hx
       obtain ⟨i, hi, rfl⟩ := List.getElem_of_mem hx
       have := hJ.out i (by rw [HRL.out] at hi; exact hi)
       rw [List.getD_eq_getElem?_getD, List.getElem?_eq_getElem hi, Option.getD_some] at this
       rw [this]; rfl
     case measure => simp [intOf]; omega
  ·
   obtain rfl : (k : Int) = n := by omega
   go_wp2
   refine bodyPost_ret (v := .bool true) (by simp [results, Try.results98, go_sem]) rfl ⟨?_, HFIN.out _ hB.out⟩
   unfold mostF
   rw [List.all_eq_true.2 (fun t ht => hT.out t (by simpa using ht))]
end Go.Proofs.Ytmnamkcjldaoeaa.PAll
namespace Go.Proofs.Ytmnamkcjldaoeaa.PAll
open Go.RowKit Go.Proofs.YtmnamkcjldaoeaaW.PrintWords Go.Proofs.YtmnamkcjldaoeaaW.PrintLast Go.Proofs.YtmnamkcjldaoeaaW.PrintMore
set_option linter.unusedVariables false
set_option linter.unusedSimpArgs false
def withLane (m : S57) (lane : Int) : S57 := ⟨m.f0, m.f1, lane⟩
def matchAt (L : List (List S57)) (r a : Nat) : S57 := (L.getD r []).getD a z57
def laneAt (L : List (List S57)) (r a : Nat) (lane : Int) : List (List S57) := L.set r ((L.getD r []).set a (withLane (matchAt L r a) lane))
def useAt (u : List Int) (t lane d : Int) : List Int := u.set (t.toNat * 3 + lane.toNat) (wrap64 (u.getD (t.toNat * 3 + lane.toNat) 0 + d))
def usesAt (u : List Int) (m : S57) (lane d : Int) : List Int := useAt (useAt u m.f0 lane d) m.f1 lane d
abbrev Res := Bool × List (List S57) × List Int × List Bool
def laneF (rec : List Bool → List (List S57) → List Int → Res) (r a : Nat) : Nat → Nat → List Bool → List (List S57) → List Int → Res
 | 0, _, tk, L, u => (false, L, u, tk)
 | j + 1, lane, tk, L, u =>
  if tk.getD lane false = true then laneF rec r a j (lane + 1) tk L u
  else if (rec (tk.set lane true) (laneAt L r a lane) (usesAt u (matchAt L r a) lane 1)).1 = true then rec (tk.set lane true) (laneAt L r a lane) (usesAt u (matchAt L r a) lane 1)
  else laneF rec r a j (lane + 1) ((rec (tk.set lane true) (laneAt L r a lane) (usesAt u (matchAt L r a) lane 1)).2.2.2.set lane false) (rec (tk.set lane true) (laneAt L r a lane) (usesAt u (matchAt L r a) lane 1)).2.1
   (usesAt (rec (tk.set lane true) (laneAt L r a lane) (usesAt u (matchAt L r a) lane 1)).2.2.1 (matchAt L r a) lane (-1))
def giveF (n un : Int) (h : Nat) : Nat → Nat → Nat → List Bool → List (List S57) → List Int → Res
 | 0, _, _, tk, L, u => (false, L, u, tk)
 | k + 1, r, a, tk, L, u =>
  if r = L.length then (decide (unevenTo u h n.toNat ≤ un), L, u, tk)
  else if a = (L.getD r []).length then
   (if mostF n h un u = true then ((giveF n un h k (r + 1) 0 (List.replicate h false) L u).1, (giveF n un h k (r + 1) 0 (List.replicate h false) L u).2.1, (giveF n un h k (r + 1) 0 (List.replicate h false) L u).2.2.1, tk) else (false, L, u, tk))
  else laneF (giveF n un h k r (a + 1)) r a h 0 tk L u
def shape (L : List (List S57)) : List (List (Int × Int)) := L.map fun l => l.map fun m => (m.f0, m.f1)
theorem shape_laneAt (L : List (List S57)) (r a : Nat) (lane : Int) : shape (laneAt L r a lane) = shape L := by
 unfold shape laneAt
 apply List.ext_getElem
 ·
  simp
 ·
  intro i h1 h2
  simp only [List.getElem_map, List.getElem_set]
  split
  case isFalse => rfl
  case isTrue hi =>
   subst hi
   have hr : r < L.length := by simpa using h2
   have e : L.getD r [] = L[r] := by rw [List.getD_eq_getElem?_getD, List.getElem?_eq_getElem hr]; rfl
   apply List.ext_getElem
   ·
    rw [List.length_map, List.length_set, e, List.length_map]
   ·
    intro j h3 h4
    simp only [List.getElem_map, List.getElem_set]
    split
    case isFalse => simp only [e]
    case isTrue hj =>
     subst hj
     have ha : a < L[r].length := by simpa using h4
     have em : matchAt L r a = L[r][a] := by unfold matchAt; rw [e, List.getD_eq_getElem?_getD, List.getElem?_eq_getElem ha]; rfl
     rw [em]; rfl
theorem shape_laneF {rec : List Bool → List (List S57) → List Int → Res} (hrec : ∀ tk L u, shape (rec tk L u).2.1 = shape L) (r a : Nat) : ∀ j lane tk L u, shape (laneF rec r a j lane tk L u).2.1 = shape L := by
 intro j
 induction j with
 | zero => intro lane tk L u; rfl
 | succ j ih =>
  intro lane tk L u
  unfold laneF
  split
  ·
   exact ih _ _ _ _
  ·
   split
   ·
    rw [hrec, shape_laneAt]
   ·
    rw [ih, hrec, shape_laneAt]
theorem shape_giveF (n un : Int) (h : Nat) : ∀ k r a tk L u, shape (giveF n un h k r a tk L u).2.1 = shape L := by
 intro k
 induction k with
 | zero => intro r a tk L u; rfl
 | succ k ih =>
  intro r a tk L u
  unfold giveF
  split
  ·
   rfl
  ·
   split
   ·
    split
    ·
     exact ih _ _ _ _ _
    ·
     rfl
   ·
    exact shape_laneF (fun tk L u => ih _ _ tk L u) r a _ _ _ _ _
theorem taken_laneF {rec : List Bool → List (List S57) → List Int → Res} (hrec : ∀ tk L u, (rec tk L u).2.2.2.length = tk.length) (r a : Nat) : ∀ j lane tk L u, (laneF rec r a j lane tk L u).2.2.2.length = tk.length := by
 intro j
 induction j with
 | zero => intro lane tk L u; rfl
 | succ j ih =>
  intro lane tk L u
  unfold laneF
  split
  ·
   exact ih _ _ _ _
  ·
   split
   ·
    rw [hrec, List.length_set]
   ·
    rw [ih, List.length_set, hrec, List.length_set]
theorem taken_giveF (n un : Int) (h : Nat) : ∀ k r a tk L u, (giveF n un h k r a tk L u).2.2.2.length = tk.length := by
 intro k
 induction k with
 | zero => intro r a tk L u; rfl
 | succ k ih =>
  intro r a tk L u
  unfold giveF
  split
  ·
   rfl
  ·
   split
   ·
    split
    ·
     rfl
    ·
     rfl
   ·
    exact taken_laneF (fun tk L u => ih _ _ tk L u) r a _ _ _ _ _
theorem shape_length {L L' : List (List S57)} (h : shape L' = shape L) : L'.length = L.length := by
 have := congrArg List.length h
 simpa [shape] using this
theorem shape_row {L L' : List (List S57)} (h : shape L' = shape L) (r : Nat) : (L'.getD r []).map (fun m => (m.f0, m.f1)) = (L.getD r []).map (fun m => (m.f0, m.f1)) := by
 have e : ∀ X : List (List S57), (X.getD r []).map (fun m => (m.f0, m.f1)) = (shape X).getD r [] := by
  intro X
  unfold shape
  rw [List.getD_eq_getElem?_getD, List.getD_eq_getElem?_getD, List.getElem?_map]
  cases X[r]? <;> rfl
 rw [e, e, h]
theorem shape_rowlen {L L' : List (List S57)} (h : shape L' = shape L) (r : Nat) : (L'.getD r []).length = (L.getD r []).length := by
 have := congrArg List.length (shape_row h r)
 simpa using this
theorem shape_match {L L' : List (List S57)} (h : shape L' = shape L) (r a : Nat) : (matchAt L' r a).f0 = (matchAt L r a).f0 ∧ (matchAt L' r a).f1 = (matchAt L r a).f1 := by
 have e : ∀ X : List (List S57), ((matchAt X r a).f0, (matchAt X r a).f1) = ((X.getD r []).map (fun m => (m.f0, m.f1))).getD a (0, 0) := by
  intro X
  unfold matchAt
  generalize X.getD r [] = Y
  rw [List.getD_eq_getElem?_getD, List.getD_eq_getElem?_getD, List.getElem?_map]
  cases Y[a]? <;> rfl
 have := (e L').trans ((congrArg (fun l => l.getD a (0, 0)) (shape_row h r)).trans (e L).symm)
 exact Prod.mk.inj this
theorem lane_place {w : World} {base N : Nat} {ad : Addr} {nn c : Nat} {L : List (List S57)} (h : Kd.S (Kd.slice 57 k57) 55 w base (fun k => k < N) (.slice (some ad) nn c) L) (r a : Nat) (hr : r < L.length) (ha : a < (L.getD r []).length) :
  ∃ g cr, w.cell? (ad.add r) = some (.slice (some ⟨g, 0, none⟩) (L.getD r []).length cr) ∧ g < N ∧ g ≠ ad.block ∧ base ≤ g ∧
   w.cell? ⟨g, a * 3, none⟩ = some (.int .i64 (matchAt L r a).f0) ∧ w.cell? ⟨g, a * 3 + 1, none⟩ = some (.int .i64 (matchAt L r a).f1) ∧ w.cell? ⟨g, a * 3 + 2, none⟩ = some (.int .i64 (matchAt L r a).f2) ∧
   w.frozen? ⟨g, a * 3 + 2, none⟩ = false ∧
   (∀ lane : Int, Kd.S (Kd.slice 57 k57) 55 (w.setCell ⟨g, a * 3 + 2, none⟩ (.int .i64 lane)) base (fun k => k < N) (.slice (some ad) nn c) (laneAt L r a lane)) := by
 have hn := (Kd.S_reads' h).1
 obtain ⟨oki, cc, hcl, hM, hcc, hoki, hback⟩ := Kd.S_borrow h ([] : List S57) (r : Int) (by omega) (by omega)
 rw [Int.toNat_natCast] at hM hcc hback
 obtain ⟨v, rfl, hR⟩ := hM
 obtain ⟨g, cr, rfl, hg, hgl, cells, hcells⟩ := Kd.R_form hR (by show 0 < (L.getD r []).length; omega)
 have hok := hR.1 g (by simp [Value.ownBlock])
 obtain ⟨ce, hcel, hMe, hce, hfe⟩ := Kd.R_elem hR z57 (a : Int) (by omega) (by omega)
 rw [Int.toNat_natCast] at hMe hce hfe
 obtain rfl := k57_openM hMe
 have hsz : k57.sz = 3 := rfl
 rw [hsz] at hce hfe
 refine ⟨g, cr, ?_, (hoki g hok).1, ?_, hg, ?_, ?_, ?_, ?_, fun lane => ?_⟩
 ·
  have := hcc 0 _ rfl
  rw [show (Kd.slice 57 k57).sz = 1 from rfl, Nat.mul_one, Nat.add_zero] at this
  exact this
 ·
  have := (hoki g hok).2
  simpa [Value.ownBlock] using this
 ·
  exact hce 0 _ rfl
 ·
  exact hce 1 _ rfl
 ·
  exact hce 2 _ rfl
 ·
  exact hfe 2
 ·
  have hs := Kd.R_seg (d := k57) hR (a : Int) (by omega) (by omega) (c := [.int .i64 (matchAt L r a).f0, .int .i64 (matchAt L r a).f1, .int .i64 (matchAt L r a).f2]) (seg := [.int .i64 lane]) (j := 2) (okp := fun _ => False) rfl (by rw [Int.toNat_natCast, hsz]; exact hce) (by rw [hsz]; simp) (x' := withLane (matchAt L r a) lane) (k57_mkM _ _ _ _) (fun _ hk => hk.elim)
  rw [Int.toNat_natCast, hsz] at hs
  obtain ⟨hs1, hs2⟩ := hs
  have hset : w.setCells g (a * 3 + 2) [.int .i64 lane] = w.setCell ⟨g, a * 3 + 2, none⟩ (.int .i64 lane) := rfl
  rw [hset] at hs1 hs2
  exact hback hs2 (fun k hk => by injection hk with hk; subst hk; exact hok) ⟨_, rfl, hs1⟩
end Go.Proofs.Ytmnamkcjldaoeaa.PAll
