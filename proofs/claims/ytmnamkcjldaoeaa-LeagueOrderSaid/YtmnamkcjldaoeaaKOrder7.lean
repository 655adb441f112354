/- Parts of the proof of leagueOrder_holds, in order: HOpen -/
import Derived.Test.YtmnamkcjldaoeaaKOrder3
import Derived.Test.YtmnamkcjldaoeaaKOrder5
import Derived.Test.YtmnamkcjldaoeaaKOrder6
namespace Go.Proofs.Ytmnamkcjldaoeaa.PAll
open Go.RowKit Go.Proofs.YtmnamkcjldaoeaaW.PrintWords Go.Proofs.YtmnamkcjldaoeaaW.PrintLast Go.Proofs.YtmnamkcjldaoeaaW.PrintMore
set_option linter.unusedVariables false
set_option linter.unusedSimpArgs false
def KeptTo (l xs : List S85) (i j : Nat) : Prop := i < j ∧ j ≤ l.length ∧ xs.length = l.length ∧ xs.take i = (l.take j).filter (·.f4) ∧ xs.drop j = l.drop j
theorem keptTo_getD {l xs : List S85} {i j : Nat} (h : KeptTo l xs i j) (hj : j < l.length) : xs.getD j z85 = l.getD j z85 := by
 have e := congrArg (fun q : List S85 => q.getD 0 z85) h.2.2.2.2
 simpa [List.getD_eq_getElem?_getD, List.getElem?_drop] using e
theorem take_succ_getD (l : List S85) (j : Nat) (hj : j < l.length) : l.take (j + 1) = l.take j ++ [l.getD j z85] := by
 rw [List.take_succ_eq_append_getElem hj, List.getD_eq_getElem?_getD, List.getElem?_eq_getElem hj]; rfl
theorem keptTo_start {l : List S85} {i : Nat} (h : idxOf (fun x : S85 => !x.f4) l = (i : Int)) : KeptTo l l i (i + 1) := by
 unfold idxOf at h
 cases hf : l.findIdx? (fun x : S85 => !x.f4) with
 | none => rw [hf] at h; simp at h
 | some k =>
  rw [hf] at h
  have hk : k = i := by simp at h; omega
  subst hk
  rw [List.findIdx?_eq_some_iff_getElem] at hf
  obtain ⟨hl, hp, hno⟩ := hf
  refine ⟨by omega, by omega, rfl, ?_, rfl⟩
  rw [List.take_succ_eq_append_getElem hl, List.filter_append]
  have h1 : (l.take k).filter (·.f4) = l.take k := by
   rw [List.filter_eq_self]
   intro x hx
   obtain ⟨j, hj, rfl⟩ := List.getElem_of_mem hx
   have hj' : j < k := by simp at hj; omega
   have := hno j hj'
   rw [List.getElem_take]
   simpa using this
  have h2 : [l[k]].filter (·.f4) = [] := by
   simp only [Bool.not_eq_true'] at hp
   simp [hp]
  rw [h1, h2, List.append_nil]
theorem keptTo_none {l : List S85} (h : idxOf (fun x : S85 => !x.f4) l = -1) : l.filter (·.f4) = l := by
 unfold idxOf at h
 cases hf : l.findIdx? (fun x : S85 => !x.f4) with
 | some k => rw [hf] at h; simp at h
 | none =>
  rw [List.findIdx?_eq_none_iff] at hf
  rw [List.filter_eq_self]
  intro x hx
  simpa using hf x hx
theorem keptTo_keep {l xs : List S85} {i j : Nat} (h : KeptTo l xs i j) (hj : j < l.length) (hx : (l.getD j z85).f4 = true) : KeptTo l (xs.set i (l.getD j z85)) (i + 1) (j + 1) := by
 obtain ⟨h1, h2, h3, h4, h5⟩ := h
 refine ⟨by omega, by omega, by rw [List.length_set, h3], ?_, ?_⟩
 ·
  rw [take_succ_getD l j hj, List.filter_append, ← h4, List.filter_cons, if_pos hx, List.filter_nil]
  rw [List.take_succ_eq_append_getElem (by rw [List.length_set]; omega), List.getElem_set_self, List.take_set_of_le (Nat.le_refl _)]
 ·
  rw [List.drop_set, if_pos (by omega)]
  have := congrArg (List.drop 1) h5
  simpa [List.drop_drop] using this
theorem keptTo_skip {l xs : List S85} {i j : Nat} (h : KeptTo l xs i j) (hj : j < l.length) (hx : (l.getD j z85).f4 = false) : KeptTo l xs i (j + 1) := by
 obtain ⟨h1, h2, h3, h4, h5⟩ := h
 refine ⟨by omega, by omega, h3, ?_, ?_⟩
 ·
  rw [take_succ_getD l j hj, List.filter_append, ← h4, List.filter_cons, if_neg (by rw [hx]; decide), List.filter_nil, List.append_nil]
 ·
  have := congrArg (List.drop 1) h5
  simpa [List.drop_drop] using this
theorem keptTo_end {l xs : List S85} {i j : Nat} (h : KeptTo l xs i j) (hj : ¬ j < l.length) : xs.take i = l.filter (·.f4) := by
 obtain ⟨h1, h2, h3, h4, h5⟩ := h
 rw [h4, List.take_of_length_le (by omega)]
theorem clear_games {w : World} {base g n cap i : Nat} {xs : List S85} (h : k85.R 85 w base (fun _ => True) (.slice (some ⟨g, 0, none⟩) n cap) xs) (hi : i < n) (m : Nat) :
  ∃ w1, (Builtin.clear_ #[30] 0 #[.slice (some ⟨g, i * 5, none⟩) (n - i) m]).run Try.prog w = .ok (.tuple #[]) w1 ∧ k85.R 85 w1 base (fun _ => True) (.slice (some ⟨g, 0, none⟩) i cap) (xs.take i) ∧ Below g w w1 := by
 obtain ⟨hn, hnc, _⟩ := Kd.R_reads' h
 have hT := Kd.R_take h (m := i) (by omega)
 obtain ⟨_, inner, ho, hr⟩ := h
 obtain ⟨ho1, ho2⟩ := ho
 rcases ho2 with ⟨hv, _⟩ | ⟨g', cap', cur, hv, hb, hh, hnc', hcm, hcs, ht⟩
 ·
  cases hv
 injection hv with ha _ hc
 injection ha with ha
 injection ha with hg
 subst hg; subst hc
 have h5 : k85.sz = 5 := rfl
 rw [h5] at hcs ho1 ht
 obtain ⟨seg, hsg⟩ : ∃ seg : List Value, (Builtin.zeroCells (Value.agg #[.int .i64 0, .int .i64 0, .int .i64 0, .int .i64 0, .bool false]).cells (n - i)).toList = seg := ⟨_, rfl⟩
 have hseg : seg.length = (n - i) * 5 := by
  rw [← hsg]
  simp [Builtin.zeroCells, Value.cells]
 have hone : ∀ v ∈ seg, v.oneCell' = true := by
  rw [← hsg]
  intro v hv
  simp only [Builtin.zeroCells, Array.toList_map, List.mem_map] at hv
  obtain ⟨q, _, rfl⟩ := hv
  have hq : q % 5 = 0 ∨ q % 5 = 1 ∨ q % 5 = 2 ∨ q % 5 = 3 ∨ q % 5 = 4 := by omega
  have e5 : (Value.agg #[.int .i64 0, .int .i64 0, .int .i64 0, .int .i64 0, .bool false]).cells = #[.int .i64 0, .int .i64 0, .int .i64 0, .int .i64 0, .bool false] := rfl
  rw [e5]
  have es : (#[Value.int .i64 0, .int .i64 0, .int .i64 0, .int .i64 0, .bool false] : Array Value).size = 5 := rfl
  rw [es]
  rcases hq with h | h | h | h | h <;> rw [h] <;> rfl
 have hfit : i * 5 + seg.length ≤ cur.size := by rw [hseg, hcs]; omega
 obtain ⟨cur', h3, h4, h6⟩ := setCells_row seg (i * 5) w cur hh hfit
 obtain ⟨s1, s2, s3, s4⟩ := setCells_same g seg (i * 5) w
 have hrun := run_storeCells_cells (P := Try.prog) g (i * 5) seg 0 w (fun j hj => by rw [cell_of_row w g _ cur 85 (0, 0) hh]; simp; omega) (fun j _ => blk_frozen hh _) hone
 simp only [Nat.add_zero] at hrun
 have hfar : ∀ k, k ≠ g → (w.setCells g (i * 5) seg).heap[k]? = w.heap[k]? := fun k hk => setCells_far seg (i * 5) k hk
 refine ⟨w.setCells g (i * 5) seg, ?_, ?_, ⟨s1, s2, s3, by rw [s4]; exact Nat.le_refl _, fun k hk => hfar k (by omega)⟩⟩
 ·
  obtain ⟨q, hq⟩ : ∃ q, n - i = q + 1 := ⟨n - i - 1, by omega⟩
  rw [hq] at hsg ⊢
  simp [Builtin.clear_, run_underlying Try.underlying30, hsg, hrun]
 ·
  obtain ⟨hok2, inner2, ho2, hr2⟩ := hT
  refine ⟨fun _ _ => trivial, inner2, ?_, hr2.imp_ (fun p c hp => k85.M_mono (fun k hk => hk) (k85.M_move (w1 := w.setCells g (i * 5) seg) (fun k hk => hfar k (fun e => hk.2 (by rw [e]; rfl))) hp))⟩
  obtain ⟨ho3, ho4⟩ := ho2
  refine ⟨ho3, ?_⟩
  rcases ho4 with ⟨hv, _⟩ | ⟨g2, cap2, cur2, hv2, hb2, hh2, hnc2, hcm2, hcs2, ht2⟩
  ·
   cases hv
  injection hv2 with ha2 hb3 hc2
  injection ha2 with ha2
  injection ha2 with hg2
  subst hg2; subst hc2
  rw [hh] at hh2
  injection hh2 with hh2
  injection hh2 with hh2
  subst hh2
  refine .inr ⟨g, cap, cur', by rw [← hb3], hb, h3, hnc2, hcm, by rw [h4, hcs, h5], ?_⟩
  rw [← ht2, h6, h5]
  have hlen : (xs.take i).length = i := by rw [List.length_take]; omega
  rw [hlen, List.append_assoc, List.take_append_of_le_length (by rw [List.length_take, Array.length_toList]; omega), List.take_take, Nat.min_self]
theorem R_storeG {P : Program} {ops : Array Oper} {rest : List Oper} {o : Oper} {a : Act} {Q : Exit → Act → World → Prop} {w0 W : World} (base : Nat) (hN : o.dst = none) (hgd : o.guard = none) (t : TypeId) (p x : Operand) (ho : o.op = .store t p x)
  (i : Nat) (xs : List S85) (x' : S85) {g n cap : Nat} (haddr : a.eval p = .pointer (some ⟨g, i * 5, none⟩)) (hx : a.eval x = .agg #[.int .i64 x'.f0, .int .i64 x'.f1, .int .i64 x'.f2, .int .i64 x'.f3, .bool x'.f4])
  (HO : k85.R 85 W base (fun _ => True) (.slice (some ⟨g, 0, none⟩) n cap) xs) (hi : i < n) (HB : Below base w0 W) (ht : (P.info? t).map (·.size) = some 5)
  (h : ∀ w1, k85.R 85 w1 base (fun _ => True) (.slice (some ⟨g, 0, none⟩) n cap) (xs.set i x') → Below base w0 w1 → W.grownBy w1 (some g) → wpList P ops Q rest a w1) : wpList P ops Q (o :: rest) a W := by
 obtain ⟨c, hcl, _, hcc, _⟩ := Kd.R_elem HO z85 (i : Int) (by omega) (by omega)
 have h5 : k85.sz = 5 := rfl
 refine Kd.R_store k85 base hN hgd t p x ho 85 (i : Int) 0 xs x' _ [.int .i64 x'.f0, .int .i64 x'.f1, .int .i64 x'.f2, .int .i64 x'.f3, .bool x'.f4] c (fun _ => True) (fun _ => False) haddr (by rw [h5]; simp) hx rfl ht (by intro q hq; simp at hq; rcases hq with rfl | rfl | rfl | rfl | rfl <;> rfl) HO (by omega) (by omega) hcl hcc (by rw [h5]; simp) ?_ (fun _ hk => hk.elim) HB h
 rw [List.take_zero, List.nil_append, List.drop_eq_nil_of_le (by rw [hcl, h5]; simp), List.append_nil]
 exact k85_mkM _ _ _ _
set_option maxRecDepth 100000 in
set_option maxHeartbeats 1000000 in
theorem delete_calls (v : Value) (l : List S85) (base : Nat) (w : World) (hR : k85.R 85 w base (fun _ => True) v l) (hb : base ≤ w.heap.size) :
  Calls Try.prog 92 #[v, .func (.func 94) #[] #[]] w fun e w' => ∃ v0_ : Value, e = .returned (v0_) ∧ k85.R 85 w' base (fun _ => True) v0_ (l.filter (·.f4)) ∧ Below base w w' := by
 obtain ⟨A, c, rfl, hc, hC⟩ := Kd.R_reads hR
 have HI := Lib.hid (indexG94 A c l (fun x => !x.f4) w hC (fun x W _ => league_League_open_1.calls _ _ _ _ _ _ _ rfl))
 have HR := Aside0.mk hR
 have HB := Aside0.mk hb
 have hm : l.length ≤ 9223372036854775807 := hC.2.1
 clear hR hC hb
 by_cases h0 : idxOf (fun x : S85 => !x.f4) l = -1
 ·
  have HE := Lib.hid (keptTo_none h0)
  have h0b : (idxOf (fun x : S85 => !x.f4) l == -1) = true := by rw [h0]; rfl
  clear h0
  go_enter Try.func92, Try.ntmps92
  go_wp2_with (go_at_call 107; (with_reducible refine HI.out.mono ?_); rintro e w1 ⟨rfl, hb1⟩)
  go_ret
  refine ⟨_, rfl, ?_, hb1.mono HB.out⟩
  rw [HE.out]
  exact Kd.R_below HR.out hb1
 ·
  obtain ⟨i0, hi0⟩ : ∃ i0 : Nat, idxOf (fun x : S85 => !x.f4) l = (i0 : Int) := by
   unfold idxOf at h0 ⊢
   cases hf : l.findIdx? (fun x : S85 => !x.f4) with
   | none => rw [hf] at h0; exact absurd rfl h0
   | some k => exact ⟨k, rfl⟩
  have hst := keptTo_start hi0
  have HK := Aside0.mk hst
  have hlt : i0 < l.length := by have := hst.2.1; omega
  clear hst h0
  obtain ⟨ad, rfl⟩ : ∃ ad, A = some ad := by
   obtain ⟨ad, e, _⟩ := (Kd.R_reads' HR.out).2.2.2.2 (by omega)
   exact ⟨ad, e⟩
  obtain ⟨g, rfl⟩ := Kd.R_head HR.out
  have HI2 : Hid (∀ W, W = w → Calls Try.prog 107 #[.slice (some ⟨g, 0, none⟩) l.length c, .func (.func 94) #[] #[]] W fun e w' => e = .returned (.int .i64 (i0 : Int)) ∧ Below w.heap.size w w') := fun W hW => by
   subst hW
   have := HI.out
   rw [hi0] at this
   exact this
  clear HI hi0
  have hb0 : ((i0 : Int) == -1) = false := beq_eq_false_iff_ne.2 (by omega)
  go_enter Try.func92, Try.ntmps92
  go_wp2_with (go_at_call 107; (with_reducible refine (HI2.out _ rfl).mono ?_); rintro e w1 ⟨rfl, hb1⟩)
  go_loopw [5, 6] (fun u v wr => ∃ (i j : Nat) (xs : List S85), u = .int .i64 i ∧ v = .int .i64 j ∧ Aside0 (KeptTo l xs i j) ∧ Aside0 (k85.R 85 wr base (fun _ => True) (.slice (some ⟨g, 0, none⟩) l.length c) xs) ∧ Aside0 (Below base w wr)) (fun _ v _ => l.length - (intOf v).toNat)
  case atStart => exact ⟨i0, i0 + 1, l, rfl, by go_num, HK, ⟨Kd.R_below HR.out hb1⟩, ⟨hb1.mono HB.out⟩⟩
  case round =>
   obtain ⟨i, j, xs, rfl, rfl, hK, hR, hB⟩ := hrel
   have hij : i < j ∧ j ≤ l.length ∧ xs.length = l.length := ⟨hK.out.1, hK.out.2.1, hK.out.2.2.1⟩
   obtain ⟨hij1, hij2, hij3⟩ := hij
   have hXL := Lib.hid hij3
   clear hij3
   by_cases hlj : j < l.length
   ·
    have hx := Lib.hid (keptTo_getD hK.out hlj)
    obtain ⟨ad, e, q0, q1, q2, q3, q4⟩ := at_T85 (n := l.length) (w := wr) (A := some ⟨g, 0, none⟩) (xs := xs) (by have := (Kd.R_reads' hR.out).2.2; rw [hXL.out] at this; exact this) (j : Int) (by omega) (by omega)
    cases e
    simp only [Int.toNat_natCast, add_plain] at q0 q1 q2 q3 q4
    cases h4 : (rd_T85 xs ↑j).f4
    ·
     go_wp2_with (go_at_call 94; (with_reducible refine (league_League_open_1.calls _ _ _ _ _ _ _ rfl).mono ?_); rintro e w2 ⟨rfl, hb2⟩)
     go_roundw
     case rel => exact ⟨i, j + 1, xs, rfl, by go_num, ⟨keptTo_skip hK.out hlj (by rw [← hx.out]; exact h4)⟩, ⟨Kd.R_below (Kd.R_alloc hR.out _) hb2⟩, ⟨(hB.out.alloc (by have := hB.out.size; have := HB.out; omega) _).trans (hb2.mono (by have := hB.out.size; have := HB.out; simp; omega))⟩⟩
     case measure => simp [intOf]; omega
    ·
     go_wp2_with (first | (go_at_call 94; (with_reducible refine (league_League_open_1.calls _ _ _ _ _ _ _ rfl).mono ?_); rintro e w2 ⟨rfl, hb2⟩; have b0 : w2.cell? ⟨wr.heap.size, 0, none⟩ = some (.int .i64 (rd_T85 xs ↑j).f0) := (hb2.cell (by simp)).trans (World.cell?_alloc_new _ _ _ _); have b1 : w2.cell? ⟨wr.heap.size, 1, none⟩ = some (.int .i64 (rd_T85 xs ↑j).f1) := (hb2.cell (by simp)).trans (World.cell?_alloc_new _ _ _ _); have b2 : w2.cell? ⟨wr.heap.size, 2, none⟩ = some (.int .i64 (rd_T85 xs ↑j).f2) := (hb2.cell (by simp)).trans (World.cell?_alloc_new _ _ _ _); have b3 : w2.cell? ⟨wr.heap.size, 3, none⟩ = some (.int .i64 (rd_T85 xs ↑j).f3) := (hb2.cell (by simp)).trans (World.cell?_alloc_new _ _ _ _); have b4 : w2.cell? ⟨wr.heap.size, 4, none⟩ = some (.bool true) := (hb2.cell (by simp)).trans (World.cell?_alloc_new _ _ _ _)) | ((with_reducible refine gate_ (.store 85 (.tmp 33) (.tmp 32)) rfl ?_); refine R_storeG (w0 := w) (g := g) (n := l.length) (cap := c) base rfl rfl 85 (.tmp 33) (.tmp 32) rfl i xs (rd_T85 xs ↑j) rfl ?hx ?HO ?hi ?HB (by kernel_rfl) ?_; (case hx => rw [h4]; rfl); (case HO => exact Kd.R_below (Kd.R_alloc hR.out _) hb2); (case hi => omega); (case HB => exact (hB.out.alloc (by have := hB.out.size; have := HB.out; omega) _).trans (hb2.mono (by have := hB.out.size; have := HB.out; simp; omega))); intro w3 h3 hb3 hg3))
     go_roundw
     case rel => exact ⟨i + 1, j + 1, _, by go_num, by go_num, ⟨by have := keptTo_keep hK.out hlj (by rw [← hx.out]; exact h4); rw [← hx.out] at this; exact this⟩, ⟨h3⟩, ⟨hb3⟩⟩
     case measure => simp [intOf]; omega
   ·
    have hxe := Lib.hid (keptTo_end hK.out hlj)
    obtain rfl : j = l.length := by omega
    obtain ⟨w5, hclr, hR5, hB5⟩ := clear_games (i := i) hR.out (by omega) (c - i)
    have HR5 := Aside0.mk hR5
    clear hR5
    go_wp2
    go_ret
    have hg := Kd.R_base hR.out g rfl
    exact ⟨_, rfl, by rw [← hxe.out]; exact HR5.out, hB.out.trans (hB5.mono hg)⟩
def openG (l : List S85) : List S85 := l.filter (·.f4)
set_option maxRecDepth 100000 in
set_option maxHeartbeats 1000000 in
theorem open_calls (n : Int) (A : Option Addr) (c : Nat) (l : List S85) (w : World) (hr : Kd.C k85 w A l.length l) (hl : l.length ≤ 1000000) :
  Calls Try.prog 59 #[.agg #[.int .i64 n, .slice A l.length c]] w fun e w' => ∃ v0_ : Value, e = .returned (v0_) ∧ k85.R 85 w' w.heap.size (fun _ => True) v0_ (openG l) ∧ Below w.heap.size w w' := by
 have HR := Aside0.mk hr
 have HL := Aside0.mk hl
 clear hr hl
 go_enter Try.func59, Try.ntmps59
 go_wp2_with (first | (go_at_call 93; (with_reducible refine (cloneG_calls _ _ _ _ ?hr HL.out).mono ?_); (case hr => exact Kd.C_alloc HR.out _); rintro e w1 ⟨v1, rfl, ho, hb1⟩; have HO := Aside0.mk ho; clear ho) | (go_at_call 92; (with_reducible refine (delete_calls _ l w.heap.size _ ?hd ?hs).mono ?_); (case hd => exact Kd.R_lower HO.out (by simp)); (case hs => have := hb1.size; simp at this; omega); rintro e w2 ⟨v2, rfl, ho2, hb2⟩; have HO2 := Aside0.mk ho2; clear ho2))
 go_ret
 exact ⟨_, rfl, HO2.out, ((below_alloc (Below.refl _ _) _).trans (hb1.mono (by simp))).trans hb2⟩
end Go.Proofs.Ytmnamkcjldaoeaa.PAll
