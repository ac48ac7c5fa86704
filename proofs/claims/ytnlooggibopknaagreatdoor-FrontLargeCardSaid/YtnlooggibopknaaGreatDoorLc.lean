/- The law FrontCuts, walked. -/
import Derived.Test.YtnlooggibopknaaGreatDoorW41
namespace Go.Proofs.YtnlooggibopknaaGreatDoor
open Go.RowKit Go.Sort

theorem cuts_no {o : O} (h : chkB o = true) (hO : OkO o) {k : Nat} (hk : k < (printL o).length) : (parseF ((printL o).take k)).2 ≠ 200 := fun h2 => by
  obtain ⟨h3, h4, h5⟩ := parseF_200 h2
  have h6 := printL_front (o := o) (o' := (parseF ((printL o).take k)).1) (more := (printL o).drop k) h hO h3 h4 (by rw [h5, List.take_append_drop])
  have h7 := congrArg List.length h6
  simp only [List.length_drop, List.length_nil] at h7
  omega
theorem mores_no {o : O} (h : chkB o = true) (hO : OkO o) {m : List UInt8} (hm : m ≠ []) : (parseF (printL o ++ m)).2 ≠ 200 := fun h2 => by
  obtain ⟨h3, h4, h5⟩ := parseF_200 h2
  exact hm (printL_front h3 h4 h hO h5)
theorem printL_len {o : O} (h : chkB o = true) : (printL o).length ≤ 60204 + o.da.length ∧ 4 ≤ (printL o).length := by
  have h1 := front_size h (show (decB o.da.length).size ≤ 20 from by have := decB_sz19 (len_lt h); omega)
  rw [printL_eq, List.length_append, List.length_append, bl_len]
  have e : CC.length = 4 := rfl
  omega
theorem RowC.front {w : World} {b off n cap : Nat} {l : List UInt8} (h : RowC w (.slice (some ⟨b, off, none⟩) n cap) (bcells l)) (hn : l.length = n) (k : Nat) (hk : k ≤ n) : RowC w (.slice (some ⟨b, off, none⟩) k cap) (bcells (l.take k)) := by
  have hc := h.cap _ _ _ rfl
  rcases Nat.eq_zero_or_pos k with rfl | h0
  · exact RowC.nil _ _ _
  · rcases h.row with ⟨a, c, he, hx⟩ | ⟨b', o', c', hp, he, hlt, hcell⟩
    · cases he
      omega
    · cases he
      have hl : (bcells (l.take k)).length = k := by rw [bcells_len, List.length_take]; omega
      refine ⟨.inr ⟨b, off, cap, by omega, by rw [hl], hlt, fun j u hj => hcell j u ?_⟩, fun _ _ _ h => by cases h; omega⟩
      have hjk : j < k := by have := (List.getElem?_eq_some_iff.1 hj).1; omega
      rw [bcells_getElem?, List.getElem?_take_of_lt hjk] at hj
      rw [bcells_getElem?]
      exact hj
/-- append onto a row of the call's own. -/
theorem append_mine {B B' g n cap : Nat} {w0 W : World} (xs l : List UInt8) (hBB : B ≤ B') (hown : W.ownsRow B' 5 1 (.slice (some ⟨g, 0, none⟩) n cap) n (bcells xs)) (hb : Below B w0 W) (hBs : B ≤ W.heap.size) (dv : Value) (hd : RowIn W dv (bcells l)) (h1 : n + l.length ≤ 1073741824) :
    ∃ v w', (Builtin.append_ #[24, 24] 24 #[.slice (some ⟨g, 0, none⟩) n cap, dv]).run Tryz.prog W = .ok v w' ∧ RowC w' v (bcells (xs ++ l)) ∧ Below B w0 w' := by
  obtain ⟨i0, hi, hz0, hz1, hz2⟩ := info_parts info5
  have hlen : (bcells l).length = l.length := bcells_len l
  have hxn : (bcells xs).length = n := by have := hown.1; omega
  rw [bcells_app]
  rcases hown.2 with ⟨he, _⟩ | ⟨g', cap', cur, he, hB, hg, hnc, hcm, hcs, htk⟩
  · cases he
  cases he
  refine append_row (P := Tryz.prog) 24 24 24 5 5 i0 (.int .u8 0) 1 Tryz.underlying24 hi hz0 hz1 hz2 rfl hb hBs g n cap (Nat.le_trans hBB hB) (hown.lt g rfl).2 hnc (bcells xs) hxn (fun j u hj => ?_) dv (bcells l) hd (bcells_one l) (fun j hj => ⟨?_, ?_⟩) (by unfold maxLen; omega) (by omega)
  · have := hown.cells (g := g) rfl j u hj
    rwa [Lib.add_plain, Nat.zero_add] at this
  · rw [cell_of_row _ _ _ _ _ _ hg]
    have : n + j < cur.size := by omega
    simp [this]
  · unfold World.frozen?
    simp only [hg]
    simp

/-- A cell that takes an op, in the world as the walk leaves it. -/
theorem opBox {B : Nat} {w0 w4 : World} {v : Value} {xs : List Value} (hb : Below B w0 w4) (hr : RowC w4 v xs) (hB : B ≤ w4.heap.size) (r : O) (pv dv : Value) :
    ∃ W5, W5 = w4.alloc (.cells (pC r pv dv) 26) ∧ Below B w0 W5 ∧ RowC W5 v xs ∧ Below w4.heap.size w4 W5 ∧ (∀ j u, (pC r pv dv)[j]? = some u → W5.cell? ⟨w4.heap.size, j, none⟩ = some u) := by
  have h1 : (w4.alloc (.cells (pC r pv dv) 26)).heap[w4.heap.size]? = some (.cells (pC r pv dv) 26 (0, 0)) := heap_alloc_new w4 _
  have b1 : Below w4.heap.size w4 (w4.alloc (.cells (pC r pv dv) 26)) := (Below.refl _ _).alloc (Nat.le_refl _) _
  exact ⟨_, rfl, hb.trans (b1.mono hB), hr.below b1, b1, fun j u hj => (cell_of_row _ _ _ _ _ _ h1).trans hj⟩
theorem rowC_cells {w : World} {b off n cap : Nat} {l : List UInt8} (h : RowC w (.slice (some ⟨b, off, none⟩) n cap) (bcells l)) : ∀ j u, (bcells l)[j]? = some u → w.cell? ((⟨b, off, none⟩ : Addr).add j) = some u := fun j u hj => by
  rcases h.row with ⟨a, c, he, hx⟩ | ⟨b', o', c', hp, he, hlt, hcell⟩
  · rw [hx] at hj
    simp at hj
  · cases he
    rw [Lib.add_plain]
    exact hcell j u hj
/-- The second append, behind the first. -/
theorem append_two {w W5 w6 : World} {v6 : Value} {L m : List UInt8} {dv : Value} (hB5 : Below w.heap.size w W5) (hown : w6.ownsRow W5.heap.size 5 1 v6 (0 + L.length) ([] ++ bcells L)) (hgr : (W5.alloc (.cells #[] 5)).grownBy w6 (Value.slice (some ⟨W5.heap.size, 0, none⟩) 0 0).ownBlock)
    (h0 : 0 < L.length) (hd : RowIn w dv (bcells m)) (h1 : L.length + m.length ≤ 1073741824) :
    ∃ v7 w7, (Builtin.append_ #[24, 24] 24 #[v6, dv]).run Tryz.prog w6 = .ok v7 w7 ∧ RowC w7 v7 (bcells (L ++ m)) ∧ Below w.heap.size w w7 := by
  have hb6 : Below W5.heap.size W5 w6 := by
    refine ((Below.refl W5.heap.size W5).alloc (Nat.le_refl _) (.cells #[] 5)).trans ?_
    exact ⟨hgr.os, hgr.tape, hgr.output, hgr.size, fun k hk => hgr.block k (by rw [World.size_alloc]; omega) (fun e => by have e' : k = W5.heap.size := Option.some.inj e; omega)⟩
  have hown6 : w6.ownsRow W5.heap.size 5 1 v6 L.length (bcells L) := own_eq hown (by omega) (List.nil_append _)
  obtain ⟨g6, cap6, rfl, _, _⟩ := hown6.form h0
  obtain ⟨v7, w7, hrun7, hrow7, hb7⟩ := append_mine L m hB5.size hown6 (hB5.trans (hb6.mono hB5.size)) (Nat.le_trans hB5.size hb6.size) dv (hd.below (hB5.trans (hb6.mono hB5.size))) h1
  exact ⟨v7, w7, hrun7, hrow7, hb7⟩
theorem tmod_in (c : Int) {n : Int} (h : 0 < n) : -n < Int.tmod c n ∧ Int.tmod c n < n := by
  have h1 := Int.tmod_lt_of_pos c h
  refine ⟨?_, h1⟩
  have h2 := Int.tmod_lt_of_pos (-c) h
  rw [Int.neg_tmod] at h2
  omega

set_option maxHeartbeats 4000000 in
set_option maxRecDepth 100000 in
theorem cuts_law (o : O) (pa da ma : Option Addr) (pc dc mc : Nat) (c : Int) (m : List UInt8) (w : World) (hp : RowIn w (.slice pa o.ps.length pc) (icells o.ps)) (hd : RowIn w (.slice da o.da.length dc) (bcells o.da)) (hO : OkO o) (hR : RdO o) (hm : RowIn w (.slice ma m.length mc) (bcells m)) (hmr : m.length ≤ 140737488355328) (hL : Lib0 w) :
    Calls Tryz.prog 7 #[opV o (.slice pa o.ps.length pc) (.slice da o.da.length dc), .int .i64 c, .slice ma m.length mc] w fun e w' => e = .returned (.bool true) ∧ Below w.heap.size w w' := by
  have HB0 : Hid (∀ x, Below w.heap.size w (w.alloc x)) := fun x => (Below.refl _ _).alloc (Nat.le_refl _) x
  have HK : Hid (∀ x, Calls Tryz.prog 11 #[] (w.alloc x) fun e w' => e = .returned (.bool true) ∧ Below (w.alloc x).heap.size (w.alloc x) w') := fun x => known_law _ (hL.below (HB0.out x))
  have HFw : Hid (∀ W, Calls Tryz.prog 12 #[opV o (.slice pa o.ps.length pc) (.slice da o.da.length dc)] W fun e w' => e = .returned (.bool (fewB o)) ∧ Below W.heap.size W w') := fun W => few_law o pa da pc dc W hR
  have HL := Lib.hid hL
  have HM := Lib.hid hm
  have HO := Lib.hid hO
  have hdr : o.da.length ≤ 140737488355328 := hR.da
  cases hf : fewB o with
  | false =>
    clear hp hd hO hR hL hm
    rw [hf] at HFw
    go_enter Tryz.func7, Tryz.ntmps7
    go_wp2_with fail
    refine (HK.out _).mono ?_
    rintro e w1 ⟨rfl, hb1⟩
    have c0 : w1.cell? ⟨w.heap.size, 0, none⟩ = some (.int .u64 o.id) := op_cells hb1 0 _ rfl
    have c1 : w1.cell? ⟨w.heap.size, 1, none⟩ = some (.int .i64 o.kind) := op_cells hb1 1 _ rfl
    have c2 : w1.cell? ⟨w.heap.size, 2, none⟩ = some (.string o.bu) := op_cells hb1 2 _ rfl
    have c3 : w1.cell? ⟨w.heap.size, 3, none⟩ = some (.string o.ke) := op_cells hb1 3 _ rfl
    have c4 : w1.cell? ⟨w.heap.size, 4, none⟩ = some (.string o.af) := op_cells hb1 4 _ rfl
    have c5 : w1.cell? ⟨w.heap.size, 5, none⟩ = some (.int .i64 o.n) := op_cells hb1 5 _ rfl
    have c6 : w1.cell? ⟨w.heap.size, 6, none⟩ = some (.int .u64 o.up) := op_cells hb1 6 _ rfl
    have c7 : w1.cell? ⟨w.heap.size, 7, none⟩ = some (.slice pa o.ps.length pc) := op_cells hb1 7 _ rfl
    have c8 : w1.cell? ⟨w.heap.size, 8, none⟩ = some (.slice da o.da.length dc) := op_cells hb1 8 _ rfl
    have HB1 := Lib.hid (below_box hb1)
    clear hb1
    go_wp2_with fail
    refine (HFw.out _).mono ?_
    rintro e w2 ⟨rfl, hb2⟩
    have HB2 := Lib.hid (HB1.out.trans (hb2.mono HB1.out.size))
    clear hb2
    go_wp2
    go_ret
    exact ⟨rfl, HB2.out⟩
  | true =>
    have hfs : o.bu.size + o.ke.size + o.af.size + o.da.length ≤ 262144 := by unfold fewB at hf; simp only [Bool.and_eq_true, decide_eq_true_eq] at hf; exact hf.1
    have HP1 : Hid (∀ W, Below w.heap.size w W → Calls Tryz.prog 13 #[opV o (.slice pa o.ps.length pc) (.slice da o.da.length dc)] W (PrR o W)) := fun W hb => print_any o _ _ W (hp.below hb) (hd.below hb) (by omega) hO (hL.below hb)
    rw [hf] at HFw
    clear hp hd hO hR hL hfs hf hm
    by_cases hml : 1000 < m.length
    · have hmi : (1000 : Int) < (m.length : Int) := by omega
      go_enter Tryz.func7, Tryz.ntmps7
      go_wp2_with fail
      refine (HK.out _).mono ?_
      rintro e w1 ⟨rfl, hb1⟩
      have c0 : w1.cell? ⟨w.heap.size, 0, none⟩ = some (.int .u64 o.id) := op_cells hb1 0 _ rfl
      have c1 : w1.cell? ⟨w.heap.size, 1, none⟩ = some (.int .i64 o.kind) := op_cells hb1 1 _ rfl
      have c2 : w1.cell? ⟨w.heap.size, 2, none⟩ = some (.string o.bu) := op_cells hb1 2 _ rfl
      have c3 : w1.cell? ⟨w.heap.size, 3, none⟩ = some (.string o.ke) := op_cells hb1 3 _ rfl
      have c4 : w1.cell? ⟨w.heap.size, 4, none⟩ = some (.string o.af) := op_cells hb1 4 _ rfl
      have c5 : w1.cell? ⟨w.heap.size, 5, none⟩ = some (.int .i64 o.n) := op_cells hb1 5 _ rfl
      have c6 : w1.cell? ⟨w.heap.size, 6, none⟩ = some (.int .u64 o.up) := op_cells hb1 6 _ rfl
      have c7 : w1.cell? ⟨w.heap.size, 7, none⟩ = some (.slice pa o.ps.length pc) := op_cells hb1 7 _ rfl
      have c8 : w1.cell? ⟨w.heap.size, 8, none⟩ = some (.slice da o.da.length dc) := op_cells hb1 8 _ rfl
      have HB1 := Lib.hid (below_box hb1)
      clear hb1
      go_wp2_with fail
      refine (HFw.out _).mono ?_
      rintro e w2 ⟨rfl, hb2⟩
      have HB2 := Lib.hid (HB1.out.trans (hb2.mono HB1.out.size))
      clear hb2
      go_wp2
      go_ret
      exact ⟨rfl, HB2.out⟩
    · have hmi : ¬ (1000 : Int) < (m.length : Int) := by omega
      go_enter Tryz.func7, Tryz.ntmps7
      go_wp2_with fail
      refine (HK.out _).mono ?_
      rintro e w1 ⟨rfl, hb1⟩
      have c0 : w1.cell? ⟨w.heap.size, 0, none⟩ = some (.int .u64 o.id) := op_cells hb1 0 _ rfl
      have c1 : w1.cell? ⟨w.heap.size, 1, none⟩ = some (.int .i64 o.kind) := op_cells hb1 1 _ rfl
      have c2 : w1.cell? ⟨w.heap.size, 2, none⟩ = some (.string o.bu) := op_cells hb1 2 _ rfl
      have c3 : w1.cell? ⟨w.heap.size, 3, none⟩ = some (.string o.ke) := op_cells hb1 3 _ rfl
      have c4 : w1.cell? ⟨w.heap.size, 4, none⟩ = some (.string o.af) := op_cells hb1 4 _ rfl
      have c5 : w1.cell? ⟨w.heap.size, 5, none⟩ = some (.int .i64 o.n) := op_cells hb1 5 _ rfl
      have c6 : w1.cell? ⟨w.heap.size, 6, none⟩ = some (.int .u64 o.up) := op_cells hb1 6 _ rfl
      have c7 : w1.cell? ⟨w.heap.size, 7, none⟩ = some (.slice pa o.ps.length pc) := op_cells hb1 7 _ rfl
      have c8 : w1.cell? ⟨w.heap.size, 8, none⟩ = some (.slice da o.da.length dc) := op_cells hb1 8 _ rfl
      have HB1 := Lib.hid (below_box hb1)
      have HZ1 : Hid (w.heap.size < w1.heap.size) := by unfold Hid; have := hb1.size; rw [World.size_alloc] at this; omega
      clear hb1
      go_wp2_with fail
      refine (HFw.out _).mono ?_
      rintro e w2 ⟨rfl, hb2⟩
      have HC1 := Lib.hid (show _ ∧ _ ∧ _ ∧ _ ∧ _ ∧ _ ∧ _ ∧ _ ∧ _ from ⟨c0, c1, c2, c3, c4, c5, c6, c7, c8⟩)
      clear c0 c1 c2 c3 c4 c5 c6 c7 c8
      have c0 : w2.cell? ⟨w.heap.size, 0, none⟩ = some (.int .u64 o.id) := ((bcell hb2).1 _ _ HZ1.out).trans (by obtain ⟨c0, c1, c2, c3, c4, c5, c6, c7, c8⟩ := HC1.out; exact c0)
      have c1 : w2.cell? ⟨w.heap.size, 1, none⟩ = some (.int .i64 o.kind) := ((bcell hb2).1 _ _ HZ1.out).trans (by obtain ⟨c0, c1, c2, c3, c4, c5, c6, c7, c8⟩ := HC1.out; exact c1)
      have c2 : w2.cell? ⟨w.heap.size, 2, none⟩ = some (.string o.bu) := ((bcell hb2).1 _ _ HZ1.out).trans (by obtain ⟨c0, c1, c2, c3, c4, c5, c6, c7, c8⟩ := HC1.out; exact c2)
      have c3 : w2.cell? ⟨w.heap.size, 3, none⟩ = some (.string o.ke) := ((bcell hb2).1 _ _ HZ1.out).trans (by obtain ⟨c0, c1, c2, c3, c4, c5, c6, c7, c8⟩ := HC1.out; exact c3)
      have c4 : w2.cell? ⟨w.heap.size, 4, none⟩ = some (.string o.af) := ((bcell hb2).1 _ _ HZ1.out).trans (by obtain ⟨c0, c1, c2, c3, c4, c5, c6, c7, c8⟩ := HC1.out; exact c4)
      have c5 : w2.cell? ⟨w.heap.size, 5, none⟩ = some (.int .i64 o.n) := ((bcell hb2).1 _ _ HZ1.out).trans (by obtain ⟨c0, c1, c2, c3, c4, c5, c6, c7, c8⟩ := HC1.out; exact c5)
      have c6 : w2.cell? ⟨w.heap.size, 6, none⟩ = some (.int .u64 o.up) := ((bcell hb2).1 _ _ HZ1.out).trans (by obtain ⟨c0, c1, c2, c3, c4, c5, c6, c7, c8⟩ := HC1.out; exact c6)
      have c7 : w2.cell? ⟨w.heap.size, 7, none⟩ = some (.slice pa o.ps.length pc) := ((bcell hb2).1 _ _ HZ1.out).trans (by obtain ⟨c0, c1, c2, c3, c4, c5, c6, c7, c8⟩ := HC1.out; exact c7)
      have c8 : w2.cell? ⟨w.heap.size, 8, none⟩ = some (.slice da o.da.length dc) := ((bcell hb2).1 _ _ HZ1.out).trans (by obtain ⟨c0, c1, c2, c3, c4, c5, c6, c7, c8⟩ := HC1.out; exact c8)
      have HB2 := Lib.hid (HB1.out.trans (hb2.mono HB1.out.size))
      have HZ2 : Hid (w.heap.size < w2.heap.size) := by unfold Hid; have := hb2.size; have := HZ1.out; omega
      clear hb2
      by_cases hdl : 5000 < o.da.length
      · have hdi : (5000 : Int) < (o.da.length : Int) := by omega
        go_wp2
        go_ret
        exact ⟨rfl, HB2.out⟩
      have hdi : ¬ (5000 : Int) < (o.da.length : Int) := by omega
      go_wp2_with fail
      refine (HP1.out _ HB2.out).mono ?_
      cases hc : chkB o with
      | false =>
        rintro e w3 ⟨v, he, hrow, hb3⟩
        rw [hc] at he
        subst he
        have HB3 := Lib.hid (HB2.out.trans (hb3.mono HB2.out.size))
        obtain ⟨va, vc, rfl⟩ := hrow.row.form
        clear hb3 hrow
        go_wp2
        go_ret
        exact ⟨rfl, HB3.out⟩
      | true =>
        rintro e w3 ⟨v, he, hrow, hb3⟩
        rw [hc] at he
        subst he
        have HB3 := Lib.hid (HB2.out.trans (hb3.mono HB2.out.size))
        have hpl : prL o = printL o := by unfold prL; rw [hc]; rfl
        rw [hpl] at hrow
        have hll := printL_len hc
        obtain ⟨L, hLe⟩ : ∃ L, printL o = L := ⟨_, rfl⟩
        have hcut : ∀ k, k < L.length → (parseF (L.take k)).2 ≠ 200 := fun k hk => by rw [← hLe]; exact cuts_no hc HO.out (by rw [hLe]; exact hk)
        have hmore : m ≠ [] → (parseF (L ++ m)).2 ≠ 200 := fun hk => by rw [← hLe]; exact mores_no hc HO.out hk
        have hback : (parseF L).2 = 200 := by rw [← hLe, parseF_print hc HO.out]
        rw [hLe] at hrow hll
        obtain ⟨b, off, cp, _, he, _⟩ : ∃ b off cp, 0 < L.length ∧ v = .slice (some ⟨b, off, none⟩) L.length cp ∧ True := by
          rcases hrow.row with ⟨a, c', hv, hx⟩ | ⟨b', o', c', h0, hv, _, _⟩
          · have := congrArg List.length hx
            rw [bcells_len] at this
            simp only [List.length_nil] at this
            omega
          · rw [bcells_len] at hv h0
            exact ⟨b', o', c', h0, hv, trivial⟩
        subst he
        have hcap := hrow.cap _ _ _ rfl
        have hn0 : ¬ ((L.length : Int) = 0) := by omega
        have hnI : (L.length : Int) ≤ 70000 := by omega
        have HR := Lib.hid hrow
        have HH := Lib.hid (show _ ∧ _ ∧ _ from ⟨hcut, hmore, hback⟩)
        clear hb3 hrow hpl hLe hcut hmore hback hll
        obtain ⟨t, ht⟩ : ∃ t, Int.tmod c (L.length : Int) = t := ⟨_, rfl⟩
        have ht1 : -(L.length : Int) < t := by rw [← ht]; exact (tmod_in c (by omega)).1
        have ht2 : t < (L.length : Int) := by rw [← ht]; exact (tmod_in c (by omega)).2
        have HPk : Hid (∀ k, k < L.length → Calls Tryz.prog 19 #[.slice (some ⟨b, off, none⟩) k cp] w3 (PaR (parseF (L.take k)) w3)) := fun k hk => parse_any (L.take k) _ w3 (HR.out.front rfl k (by omega)) (by rw [List.length_take]; omega) (HL.out.below HB3.out)
        clear HK HFw HP1 HC1 HZ1 HZ2 HB1 HB2
        by_cases htn : t < 0
        · have hk : (t + (L.length : Int)).toNat < L.length := by omega
          have hne := HH.out.1 _ hk
          have HPp := Lib.hid (HPk.out _ hk)
          clear HPk
          generalize parseF (L.take ((t + (L.length : Int)).toNat)) = rs at *
          obtain ⟨r, s⟩ := rs
          simp only at hne
          go_wp2_with fail
          refine HPp.out.mono ?_
          rintro e w4 ⟨pv, dv, rfl, hpv, hdv, hb4⟩
          obtain ⟨a1, c1, rfl⟩ := hpv.row.form
          obtain ⟨a2, c2, rfl⟩ := hdv.row.form
          have HR4 : Hid (RowC w4 (.slice (some ⟨b, off, none⟩) L.length cp) (bcells L)) := HR.out.below hb4
          have HB4 := Lib.hid (HB3.out.trans (hb4.mono HB3.out.size))
          clear hpv hdv hb4 HPp
          obtain ⟨W5, hW5, HB5, HR5, _, _⟩ := opBox HB4.out HR4.out HB4.out.size r (.slice a1 (icells r.ps).length c1) (.slice a2 (bcells r.da).length c2)
          unfold pC at hW5
          have HB5 := Lib.hid HB5
          have HR5 := Lib.hid HR5
          go_upto_region 12 with fail
          rw [← hW5]
          clear hW5
          have hsn : ¬ s = 200 := hne
          have HO5 : Hid ((W5.alloc (.cells #[] 5)).ownsRow W5.heap.size 5 1 (.slice (some ⟨W5.heap.size, 0, none⟩) 0 0) 0 []) := ⟨rfl, .inr ⟨W5.heap.size, 0, #[], rfl, Nat.le_refl _, heap_alloc_new W5 _, by omega, by unfold maxLen; omega, rfl, rfl⟩⟩
          have HC5 : Hid (∀ j u, (bcells L)[j]? = some u → (W5.alloc (.cells #[] 5)).cell? ((⟨b, off, none⟩ : Addr).add j) = some u) := rowC_cells (HR5.out.below ((Below.refl W5.heap.size W5).alloc (Nat.le_refl _) _))
          obtain ⟨i0, hi, hz0, hz1, hz2⟩ := info_parts info5
          have hpos : 0 < L.length := by omega
          have hsum : L.length + m.length ≤ 1073741824 := by omega
          go_wp2_with (first | (at_builtin; refine wpList_append_own _ rfl _ _ 24 rfl W5.heap.size 5 i0 (.int .u8 0) 1 1 Tryz.underlying24 hi hz0 hz1 hz2 rfl (by decide) _ _ _ rfl HO5.out ⟨b, off, none⟩ L.length cp (bcells L) rfl (by rw [bcells_len]; omega) HC5.out (bcells_one L) (by unfold maxLen; omega) (by omega) (by simp) ?_; intro v6 w6 hown6 hgr6 _; obtain ⟨v7, w7, hrun7, hrow7, HB7⟩ := append_two HB5.out hown6 hgr6 hpos HM.out hsum) | (at_builtin; refine wpList_append_run rfl _ _ 24 rfl _ _ v7 w7 rfl rfl hrun7 ?_; have HP7 : Hid (Calls Tryz.prog 19 #[v7] w7 (PaR (parseF (L ++ m)) w7)) := parse_any (L ++ m) v7 w7 hrow7 (by rw [List.length_append]; exact hsum) (HL.out.below HB7); replace HB7 := Lib.hid HB7; clear hrow7 hown6 hgr6 hrun7))
          have hfin : ((parseF (L ++ m)).2 = 200) ↔ ((m.length : Int) = 0) := by
            constructor
            · intro h2
              by_cases hm0 : m = []
              · rw [hm0]; rfl
              · exact absurd h2 (HH.out.2.1 hm0)
            · intro h2
              have hm0 : m = [] := List.eq_nil_of_length_eq_zero (by omega)
              rw [hm0, List.append_nil]
              exact HH.out.2.2
          generalize parseF (L ++ m) = rs at *
          obtain ⟨r2, s2⟩ := rs
          simp only at hfin
          clear hne hsn
          refine HP7.out.mono ?_
          rintro e w8 ⟨pv, dv, rfl, hpv, hdv, hb8⟩
          have HB8 := Lib.hid (HB7.out.trans (hb8.mono HB7.out.size))
          clear hpv hdv hb8
          have hq : ((s2 == 200) == ((m.length : Int) == 0)) = true := by
            by_cases hm0 : (m.length : Int) = 0
            · rw [beq_iff_eq.2 (hfin.2 hm0), beq_iff_eq.2 hm0]; rfl
            · rw [beq_eq_false_iff_ne.2 hm0, beq_eq_false_iff_ne.2 (fun h => hm0 (hfin.1 h))]; rfl
          have HQ := Lib.hid hq
          clear hfin hq
          go_wp2
          go_ret
          exact ⟨ret_bool HQ.out, HB8.out⟩
        · have hk : t.toNat < L.length := by omega
          have hne := HH.out.1 _ hk
          have HPp := Lib.hid (HPk.out _ hk)
          clear HPk
          generalize parseF (L.take (t.toNat)) = rs at *
          obtain ⟨r, s⟩ := rs
          simp only at hne
          go_wp2_with fail
          refine HPp.out.mono ?_
          rintro e w4 ⟨pv, dv, rfl, hpv, hdv, hb4⟩
          obtain ⟨a1, c1, rfl⟩ := hpv.row.form
          obtain ⟨a2, c2, rfl⟩ := hdv.row.form
          have HR4 : Hid (RowC w4 (.slice (some ⟨b, off, none⟩) L.length cp) (bcells L)) := HR.out.below hb4
          have HB4 := Lib.hid (HB3.out.trans (hb4.mono HB3.out.size))
          clear hpv hdv hb4 HPp
          obtain ⟨W5, hW5, HB5, HR5, _, _⟩ := opBox HB4.out HR4.out HB4.out.size r (.slice a1 (icells r.ps).length c1) (.slice a2 (bcells r.da).length c2)
          unfold pC at hW5
          have HB5 := Lib.hid HB5
          have HR5 := Lib.hid HR5
          go_upto_region 12 with fail
          rw [← hW5]
          clear hW5
          have hsn : ¬ s = 200 := hne
          have HO5 : Hid ((W5.alloc (.cells #[] 5)).ownsRow W5.heap.size 5 1 (.slice (some ⟨W5.heap.size, 0, none⟩) 0 0) 0 []) := ⟨rfl, .inr ⟨W5.heap.size, 0, #[], rfl, Nat.le_refl _, heap_alloc_new W5 _, by omega, by unfold maxLen; omega, rfl, rfl⟩⟩
          have HC5 : Hid (∀ j u, (bcells L)[j]? = some u → (W5.alloc (.cells #[] 5)).cell? ((⟨b, off, none⟩ : Addr).add j) = some u) := rowC_cells (HR5.out.below ((Below.refl W5.heap.size W5).alloc (Nat.le_refl _) _))
          obtain ⟨i0, hi, hz0, hz1, hz2⟩ := info_parts info5
          have hpos : 0 < L.length := by omega
          have hsum : L.length + m.length ≤ 1073741824 := by omega
          go_wp2_with (first | (at_builtin; refine wpList_append_own _ rfl _ _ 24 rfl W5.heap.size 5 i0 (.int .u8 0) 1 1 Tryz.underlying24 hi hz0 hz1 hz2 rfl (by decide) _ _ _ rfl HO5.out ⟨b, off, none⟩ L.length cp (bcells L) rfl (by rw [bcells_len]; omega) HC5.out (bcells_one L) (by unfold maxLen; omega) (by omega) (by simp) ?_; intro v6 w6 hown6 hgr6 _; obtain ⟨v7, w7, hrun7, hrow7, HB7⟩ := append_two HB5.out hown6 hgr6 hpos HM.out hsum) | (at_builtin; refine wpList_append_run rfl _ _ 24 rfl _ _ v7 w7 rfl rfl hrun7 ?_; have HP7 : Hid (Calls Tryz.prog 19 #[v7] w7 (PaR (parseF (L ++ m)) w7)) := parse_any (L ++ m) v7 w7 hrow7 (by rw [List.length_append]; exact hsum) (HL.out.below HB7); replace HB7 := Lib.hid HB7; clear hrow7 hown6 hgr6 hrun7))
          have hfin : ((parseF (L ++ m)).2 = 200) ↔ ((m.length : Int) = 0) := by
            constructor
            · intro h2
              by_cases hm0 : m = []
              · rw [hm0]; rfl
              · exact absurd h2 (HH.out.2.1 hm0)
            · intro h2
              have hm0 : m = [] := List.eq_nil_of_length_eq_zero (by omega)
              rw [hm0, List.append_nil]
              exact HH.out.2.2
          generalize parseF (L ++ m) = rs at *
          obtain ⟨r2, s2⟩ := rs
          simp only at hfin
          clear hne hsn
          refine HP7.out.mono ?_
          rintro e w8 ⟨pv, dv, rfl, hpv, hdv, hb8⟩
          have HB8 := Lib.hid (HB7.out.trans (hb8.mono HB7.out.size))
          clear hpv hdv hb8
          have hq : ((s2 == 200) == ((m.length : Int) == 0)) = true := by
            by_cases hm0 : (m.length : Int) = 0
            · rw [beq_iff_eq.2 (hfin.2 hm0), beq_iff_eq.2 hm0]; rfl
            · rw [beq_eq_false_iff_ne.2 hm0, beq_eq_false_iff_ne.2 (fun h => hm0 (hfin.1 h))]; rfl
          have HQ := Lib.hid hq
          clear hfin hq
          go_wp2
          go_ret
          exact ⟨ret_bool HQ.out, HB8.out⟩
end Go.Proofs.YtnlooggibopknaaGreatDoor
