/- The law FrontBack, walked. -/
import Derived.Test.YtnlooggibopknaaGreatDoorSm
import Derived.Test.YtnlooggibopknaaGreatDoorLc
namespace Go.Proofs.YtnlooggibopknaaGreatDoor
open Go.RowKit Go.Sort

theorem rowC_formI {w : World} {v : Value} {l : List Int} (h : RowC w v (icells l)) : ∃ a c, v = .slice a l.length c := by
  obtain ⟨a, c, rfl⟩ := h.row.form
  exact ⟨a, c, by simp [icells]⟩
theorem rowC_formB {w : World} {v : Value} {l : List UInt8} (h : RowC w v (bcells l)) : ∃ a c, v = .slice a l.length c := by
  obtain ⟨a, c, rfl⟩ := h.row.form
  exact ⟨a, c, by rw [bcells_len]⟩
theorem opBoxB {B : Nat} {w0 w4 : World} {v u : Value} {xs ys : List Value} (hb : Below B w0 w4) (hr : RowIn w4 v xs) (hu : RowIn w4 u ys) (hB : B ≤ w4.heap.size) (r : O) (pv dv : Value) :
    ∃ W5, W5 = w4.alloc (.cells (pC r pv dv) 26) ∧ Below B w0 W5 ∧ (RowIn W5 v xs ∧ RowIn W5 u ys) ∧ Below w4.heap.size w4 W5 ∧ (∀ j u, (pC r pv dv)[j]? = some u → W5.cell? ⟨w4.heap.size, j, none⟩ = some u) := by
  have h1 : (w4.alloc (.cells (pC r pv dv) 26)).heap[w4.heap.size]? = some (.cells (pC r pv dv) 26 (0, 0)) := heap_alloc_new w4 _
  have b1 : Below w4.heap.size w4 (w4.alloc (.cells (pC r pv dv) 26)) := (Below.refl _ _).alloc (Nat.le_refl _) _
  exact ⟨_, rfl, hb.trans (b1.mono hB), ⟨hr.below b1, hu.below b1⟩, b1, fun j u hj => (cell_of_row _ _ _ _ _ _ h1).trans hj⟩

set_option maxHeartbeats 8000000 in
set_option maxRecDepth 100000 in
theorem back_law (o : O) (pa da ba : Option Addr) (pc dc bc : Nat) (l : List UInt8) (w : World) (hp : RowIn w (.slice pa o.ps.length pc) (icells o.ps)) (hd : RowIn w (.slice da o.da.length dc) (bcells o.da)) (hO : OkO o) (hR : RdO o) (hm : RowC w (.slice ba l.length bc) (bcells l)) (hmr : l.length ≤ 140737488355328) (hL : Lib0 w) :
    Calls Tryz.prog 6 #[opV o (.slice pa o.ps.length pc) (.slice da o.da.length dc), .slice ba l.length bc] w fun e w' => e = .returned (.bool true) ∧ Below w.heap.size w w' := by
  have HB0 : Hid (∀ x, Below w.heap.size w (w.alloc x)) := fun x => (Below.refl _ _).alloc (Nat.le_refl _) x
  have HK : Hid (∀ x, Calls Tryz.prog 11 #[] (w.alloc x) fun e w' => e = .returned (.bool true) ∧ Below (w.alloc x).heap.size (w.alloc x) w') := fun x => known_law _ (hL.below (HB0.out x))
  have HFw : Hid (∀ W, Calls Tryz.prog 12 #[opV o (.slice pa o.ps.length pc) (.slice da o.da.length dc)] W fun e w' => e = .returned (.bool (fewB o)) ∧ Below W.heap.size W w') := fun W => few_law o pa da pc dc W hR
  have HL := Lib.hid hL
  have HM := Lib.hid hm
  have HO := Lib.hid hO
  have HPD := Lib.hid (And.intro hp hd)
  cases hf : fewB o with
  | false =>
    clear hp hd hO hR hL hm
    rw [hf] at HFw
    go_enter Tryz.func6, Tryz.ntmps6
    go_wp2_with fail
    refine (HK.out _).mono ?_
    rintro e w1 ⟨rfl, hb1⟩
    have c0 : w1.cell? ⟨w.heap.size, 0, none⟩ = some (.int .u64 o.id) := op_cells hb1 0 _ rfl
    have c1 : w1.cell? ⟨w.heap.size, 1, none⟩ = some (.int .i64 o.kind) := op_cells hb1 1 _ rfl
    have c2 : w1.cell? ⟨w.heap.size, 2, none⟩ = some (.string o.bu) := op_cells hb1 2 _ rfl
    have c3 : w1.cell? ⟨w.heap.size, 3, none⟩ = some (.string o.ke) := op_cells hb1 3 _ rfl
    have c4 : w1.cell? ⟨w.heap.size, 4, none⟩ = some (.string o.af) := op_cells hb1 4 _ rfl
    have c5 : w1.cell? ⟨w.heap.size, 5, none⟩ = some (.int .i64 o.n) := op_cells hb1 5 _ rfl
    have c6 : w1.cell? ⟨w.heap.size, 6, none⟩ = some (.int .u64 o.up) := op_cells hb1 6 _ rfl
    have c7 : w1.cell? ⟨w.heap.size, 7, none⟩ = some (.slice pa o.ps.length pc) := op_cells hb1 7 _ rfl
    have c8 : w1.cell? ⟨w.heap.size, 8, none⟩ = some (.slice da o.da.length dc) := op_cells hb1 8 _ rfl
    have HB1 := Lib.hid (below_box hb1)
    clear hb1
    go_wp2_with fail
    refine (HFw.out _).mono ?_
    rintro e w2 ⟨rfl, hb2⟩
    have HB2 := Lib.hid (HB1.out.trans (hb2.mono HB1.out.size))
    clear hb2
    go_wp2
    go_ret
    exact ⟨rfl, HB2.out⟩
  | true =>
    have hfs : o.bu.size + o.ke.size + o.af.size + o.da.length ≤ 262144 := by unfold fewB at hf; simp only [Bool.and_eq_true, decide_eq_true_eq] at hf; exact hf.1
    have hfp : o.ps.length ≤ 140737488355328 := hR.ps
    have HP1 : Hid (∀ W, Below w.heap.size w W → Calls Tryz.prog 13 #[opV o (.slice pa o.ps.length pc) (.slice da o.da.length dc)] W (PrR o W)) := fun W hb => print_any o _ _ W (hp.below hb) (hd.below hb) (by omega) hO (hL.below hb)
    have HCk : Hid (∀ W, Below w.heap.size w W → Calls Tryz.prog 22 #[opV o (.slice pa o.ps.length pc) (.slice da o.da.length dc)] W (ChkR o W)) := fun W hb => rcheck_any o _ _ W (hp.below hb) (hd.below hb) (by omega)
    rw [hf] at HFw
    have HFD : Hid (o.da.length ≤ 262144 ∧ o.ps.length ≤ 140737488355328) := ⟨by omega, hfp⟩
    clear hp hd hO hR hL hfs hf hm hfp
    by_cases hml : 262144 < l.length
    · have hmi : (262144 : Int) < (l.length : Int) := by omega
      go_enter Tryz.func6, Tryz.ntmps6
      go_wp2_with fail
      refine (HK.out _).mono ?_
      rintro e w1 ⟨rfl, hb1⟩
      have c0 : w1.cell? ⟨w.heap.size, 0, none⟩ = some (.int .u64 o.id) := op_cells hb1 0 _ rfl
      have c1 : w1.cell? ⟨w.heap.size, 1, none⟩ = some (.int .i64 o.kind) := op_cells hb1 1 _ rfl
      have c2 : w1.cell? ⟨w.heap.size, 2, none⟩ = some (.string o.bu) := op_cells hb1 2 _ rfl
      have c3 : w1.cell? ⟨w.heap.size, 3, none⟩ = some (.string o.ke) := op_cells hb1 3 _ rfl
      have c4 : w1.cell? ⟨w.heap.size, 4, none⟩ = some (.string o.af) := op_cells hb1 4 _ rfl
      have c5 : w1.cell? ⟨w.heap.size, 5, none⟩ = some (.int .i64 o.n) := op_cells hb1 5 _ rfl
      have c6 : w1.cell? ⟨w.heap.size, 6, none⟩ = some (.int .u64 o.up) := op_cells hb1 6 _ rfl
      have c7 : w1.cell? ⟨w.heap.size, 7, none⟩ = some (.slice pa o.ps.length pc) := op_cells hb1 7 _ rfl
      have c8 : w1.cell? ⟨w.heap.size, 8, none⟩ = some (.slice da o.da.length dc) := op_cells hb1 8 _ rfl
      have HB1 := Lib.hid (below_box hb1)
      clear hb1
      go_wp2_with fail
      refine (HFw.out _).mono ?_
      rintro e w2 ⟨rfl, hb2⟩
      have HB2 := Lib.hid (HB1.out.trans (hb2.mono HB1.out.size))
      clear hb2
      go_wp2
      go_ret
      exact ⟨rfl, HB2.out⟩
    · have hmi : ¬ (262144 : Int) < (l.length : Int) := by omega
      have HPb : Hid (∀ W, Below w.heap.size w W → Calls Tryz.prog 19 #[.slice ba l.length bc] W (PaR (parseF l) W)) := fun W hb => parse_any l _ W (HM.out.below hb) (by omega) (HL.out.below hb)
      have hq4 : ((mkB l).toList == (mkB l).toList) = true := by simp
      clear hml
      go_enter Tryz.func6, Tryz.ntmps6
      go_wp2_with fail
      refine (HK.out _).mono ?_
      rintro e w1 ⟨rfl, hb1⟩
      have c0 : w1.cell? ⟨w.heap.size, 0, none⟩ = some (.int .u64 o.id) := op_cells hb1 0 _ rfl
      have c1 : w1.cell? ⟨w.heap.size, 1, none⟩ = some (.int .i64 o.kind) := op_cells hb1 1 _ rfl
      have c2 : w1.cell? ⟨w.heap.size, 2, none⟩ = some (.string o.bu) := op_cells hb1 2 _ rfl
      have c3 : w1.cell? ⟨w.heap.size, 3, none⟩ = some (.string o.ke) := op_cells hb1 3 _ rfl
      have c4 : w1.cell? ⟨w.heap.size, 4, none⟩ = some (.string o.af) := op_cells hb1 4 _ rfl
      have c5 : w1.cell? ⟨w.heap.size, 5, none⟩ = some (.int .i64 o.n) := op_cells hb1 5 _ rfl
      have c6 : w1.cell? ⟨w.heap.size, 6, none⟩ = some (.int .u64 o.up) := op_cells hb1 6 _ rfl
      have c7 : w1.cell? ⟨w.heap.size, 7, none⟩ = some (.slice pa o.ps.length pc) := op_cells hb1 7 _ rfl
      have c8 : w1.cell? ⟨w.heap.size, 8, none⟩ = some (.slice da o.da.length dc) := op_cells hb1 8 _ rfl
      have HB1 := Lib.hid (below_box hb1)
      have HZ1 : Hid (w.heap.size < w1.heap.size) := by unfold Hid; have := hb1.size; rw [World.size_alloc] at this; omega
      clear hb1
      go_wp2_with fail
      refine (HFw.out _).mono ?_
      rintro e w2 ⟨rfl, hb2⟩
      have HC1 := Lib.hid (show _ ∧ _ ∧ _ ∧ _ ∧ _ ∧ _ ∧ _ ∧ _ ∧ _ from ⟨c0, c1, c2, c3, c4, c5, c6, c7, c8⟩)
      clear c0 c1 c2 c3 c4 c5 c6 c7 c8
      have HB2 := Lib.hid (HB1.out.trans (hb2.mono HB1.out.size))
      have HD2 := Lib.hid hb2
      clear hb2
      have c0 : w2.cell? ⟨w.heap.size, 0, none⟩ = some (.int .u64 o.id) := ((bcell HD2.out).1 _ _ HZ1.out).trans (by obtain ⟨c0, c1, c2, c3, c4, c5, c6, c7, c8⟩ := HC1.out; exact c0)
      have c1 : w2.cell? ⟨w.heap.size, 1, none⟩ = some (.int .i64 o.kind) := ((bcell HD2.out).1 _ _ HZ1.out).trans (by obtain ⟨c0, c1, c2, c3, c4, c5, c6, c7, c8⟩ := HC1.out; exact c1)
      have c2 : w2.cell? ⟨w.heap.size, 2, none⟩ = some (.string o.bu) := ((bcell HD2.out).1 _ _ HZ1.out).trans (by obtain ⟨c0, c1, c2, c3, c4, c5, c6, c7, c8⟩ := HC1.out; exact c2)
      have c3 : w2.cell? ⟨w.heap.size, 3, none⟩ = some (.string o.ke) := ((bcell HD2.out).1 _ _ HZ1.out).trans (by obtain ⟨c0, c1, c2, c3, c4, c5, c6, c7, c8⟩ := HC1.out; exact c3)
      have c4 : w2.cell? ⟨w.heap.size, 4, none⟩ = some (.string o.af) := ((bcell HD2.out).1 _ _ HZ1.out).trans (by obtain ⟨c0, c1, c2, c3, c4, c5, c6, c7, c8⟩ := HC1.out; exact c4)
      have c5 : w2.cell? ⟨w.heap.size, 5, none⟩ = some (.int .i64 o.n) := ((bcell HD2.out).1 _ _ HZ1.out).trans (by obtain ⟨c0, c1, c2, c3, c4, c5, c6, c7, c8⟩ := HC1.out; exact c5)
      have c6 : w2.cell? ⟨w.heap.size, 6, none⟩ = some (.int .u64 o.up) := ((bcell HD2.out).1 _ _ HZ1.out).trans (by obtain ⟨c0, c1, c2, c3, c4, c5, c6, c7, c8⟩ := HC1.out; exact c6)
      have c7 : w2.cell? ⟨w.heap.size, 7, none⟩ = some (.slice pa o.ps.length pc) := ((bcell HD2.out).1 _ _ HZ1.out).trans (by obtain ⟨c0, c1, c2, c3, c4, c5, c6, c7, c8⟩ := HC1.out; exact c7)
      have c8 : w2.cell? ⟨w.heap.size, 8, none⟩ = some (.slice da o.da.length dc) := ((bcell HD2.out).1 _ _ HZ1.out).trans (by obtain ⟨c0, c1, c2, c3, c4, c5, c6, c7, c8⟩ := HC1.out; exact c8)
      go_wp2_with fail
      clear c0 c1 c2 c3 c4 c5 c6 c7 c8
      refine (HP1.out _ HB2.out).mono ?_
      cases hc : chkB o with
      | false =>
        rintro e w3 ⟨v, he, hrow, hb3⟩
        rw [hc] at he
        subst he
        have HB3 := Lib.hid (HB2.out.trans (hb3.mono HB2.out.size))
        have HD3 := Lib.hid (HD2.out.trans (hb3.mono HD2.out.size))
        obtain ⟨va, vc, rfl⟩ := hrow.row.form
        have HCC : Hid (Calls Tryz.prog 22 #[opV o (.slice pa o.ps.length pc) (.slice da o.da.length dc)] w3 fun e w' => e = .returned (.int .i64 1) ∧ Below w3.heap.size w3 w') := (HCk.out _ HB3.out).mono fun _ _ ⟨h1, h2⟩ => ⟨by rw [h1, hc]; rfl, h2⟩
        clear hb3 hrow
        have c0 : w3.cell? ⟨w.heap.size, 0, none⟩ = some (.int .u64 o.id) := ((bcell HD3.out).1 _ _ HZ1.out).trans (by obtain ⟨c0, c1, c2, c3, c4, c5, c6, c7, c8⟩ := HC1.out; exact c0)
        have c1 : w3.cell? ⟨w.heap.size, 1, none⟩ = some (.int .i64 o.kind) := ((bcell HD3.out).1 _ _ HZ1.out).trans (by obtain ⟨c0, c1, c2, c3, c4, c5, c6, c7, c8⟩ := HC1.out; exact c1)
        have c2 : w3.cell? ⟨w.heap.size, 2, none⟩ = some (.string o.bu) := ((bcell HD3.out).1 _ _ HZ1.out).trans (by obtain ⟨c0, c1, c2, c3, c4, c5, c6, c7, c8⟩ := HC1.out; exact c2)
        have c3 : w3.cell? ⟨w.heap.size, 3, none⟩ = some (.string o.ke) := ((bcell HD3.out).1 _ _ HZ1.out).trans (by obtain ⟨c0, c1, c2, c3, c4, c5, c6, c7, c8⟩ := HC1.out; exact c3)
        have c4 : w3.cell? ⟨w.heap.size, 4, none⟩ = some (.string o.af) := ((bcell HD3.out).1 _ _ HZ1.out).trans (by obtain ⟨c0, c1, c2, c3, c4, c5, c6, c7, c8⟩ := HC1.out; exact c4)
        have c5 : w3.cell? ⟨w.heap.size, 5, none⟩ = some (.int .i64 o.n) := ((bcell HD3.out).1 _ _ HZ1.out).trans (by obtain ⟨c0, c1, c2, c3, c4, c5, c6, c7, c8⟩ := HC1.out; exact c5)
        have c6 : w3.cell? ⟨w.heap.size, 6, none⟩ = some (.int .u64 o.up) := ((bcell HD3.out).1 _ _ HZ1.out).trans (by obtain ⟨c0, c1, c2, c3, c4, c5, c6, c7, c8⟩ := HC1.out; exact c6)
        have c7 : w3.cell? ⟨w.heap.size, 7, none⟩ = some (.slice pa o.ps.length pc) := ((bcell HD3.out).1 _ _ HZ1.out).trans (by obtain ⟨c0, c1, c2, c3, c4, c5, c6, c7, c8⟩ := HC1.out; exact c7)
        have c8 : w3.cell? ⟨w.heap.size, 8, none⟩ = some (.slice da o.da.length dc) := ((bcell HD3.out).1 _ _ HZ1.out).trans (by obtain ⟨c0, c1, c2, c3, c4, c5, c6, c7, c8⟩ := HC1.out; exact c8)
        go_wp2_with fail
        clear c0 c1 c2 c3 c4 c5 c6 c7 c8
        refine HCC.out.mono ?_
        rintro e w4 ⟨rfl, hb4⟩
        have HBt := Lib.hid (HB3.out.trans (hb4.mono HB3.out.size))
        clear hb4 HCC HK HFw HP1 HCk
        go_wp2_with fail
        refine (HPb.out w4 HBt.out).mono ?_
        rintro e w8 ⟨pv, dv, rfl, hpv, hdv, hb8⟩
        have HB8 := Lib.hid (HBt.out.trans (hb8.mono HBt.out.size))
        have hF1 := fun h : (parseF l).2 = 200 => parseF_200 h
        have hF2 := fun h : (parseF l).2 ≠ 200 => parseF_not h
        clear HPb
        generalize parseF l = rs at *
        obtain ⟨r, s⟩ := rs
        simp only at hF1 hF2 hpv hdv
        obtain ⟨a1, q1, rfl⟩ := rowC_formI hpv
        obtain ⟨a2, q2, rfl⟩ := rowC_formB hdv
        obtain ⟨W9, hW9, HB9, HR9, hb9, hk⟩ := opBoxB HB8.out hpv.row hdv.row HB8.out.size r (.slice a1 r.ps.length q1) (.slice a2 r.da.length q2)
        unfold pC at hW9
        replace HB9 := Lib.hid HB9
        replace HR9 := Lib.hid HR9
        clear hpv hdv hb8 hb9
        go_upto_region 13 with fail
        rw [← hW9]
        clear hW9
        by_cases hs2 : s = 200
        · subst hs2
          obtain ⟨hc9, hO9, hl9⟩ := hF1 rfl
          have k0 : W9.cell? ⟨w8.heap.size, 0, none⟩ = some (.int .u64 r.id) := hk 0 _ rfl
          have k1 : W9.cell? ⟨w8.heap.size, 1, none⟩ = some (.int .i64 r.kind) := hk 1 _ rfl
          have k2 : W9.cell? ⟨w8.heap.size, 2, none⟩ = some (.string r.bu) := hk 2 _ rfl
          have k3 : W9.cell? ⟨w8.heap.size, 3, none⟩ = some (.string r.ke) := hk 3 _ rfl
          have k4 : W9.cell? ⟨w8.heap.size, 4, none⟩ = some (.string r.af) := hk 4 _ rfl
          have k5 : W9.cell? ⟨w8.heap.size, 5, none⟩ = some (.int .i64 r.n) := hk 5 _ rfl
          have k6 : W9.cell? ⟨w8.heap.size, 6, none⟩ = some (.int .u64 r.up) := hk 6 _ rfl
          have k7 : W9.cell? ⟨w8.heap.size, 7, none⟩ = some (.slice a1 r.ps.length q1) := hk 7 _ rfl
          have k8 : W9.cell? ⟨w8.heap.size, 8, none⟩ = some (.slice a2 r.da.length q2) := hk 8 _ rfl
          clear hk hF1 hF2
          have HPr : Hid (Calls Tryz.prog 13 #[opV r (.slice a1 r.ps.length q1) (.slice a2 r.da.length q2)] W9 (PrR r W9)) := print_any r _ _ W9 HR9.out.1 HR9.out.2 (by have := (sm_of_chk hc9).bu; omega) hO9 (HL.out.below HB9.out)
          have hpl : prL r = l := by unfold prL; rw [hc9]; exact hl9
          have HC9 := Lib.hid hc9
          clear hO9 hc9 hl9
          go_wp2_with fail
          refine HPr.out.mono ?_
          rintro e w10 ⟨v, he, hrow, hb10⟩
          rw [HC9.out] at he
          subst he
          rw [hpl] at hrow
          have HB10 := Lib.hid (HB9.out.trans (hb10.mono HB9.out.size))
          obtain ⟨a3, c3, rfl⟩ := rowC_formB hrow
          have hv1 := convert_row hrow.row
          have hv2 := convert_row (HM.out.row.below HB10.out)
          clear hrow hb10 hpl k0 k1 k2 k3 k4 k5 k6 k7 k8
          go_wp2
          go_ret
          exact ⟨rfl, HB10.out⟩
        · obtain ⟨rfl, hs3⟩ := hF2 hs2
          have k0 : W9.cell? ⟨w8.heap.size, 0, none⟩ = some (.int .u64 zeroO.id) := hk 0 _ rfl
          have k1 : W9.cell? ⟨w8.heap.size, 1, none⟩ = some (.int .i64 zeroO.kind) := hk 1 _ rfl
          have k2 : W9.cell? ⟨w8.heap.size, 2, none⟩ = some (.string zeroO.bu) := hk 2 _ rfl
          have k3 : W9.cell? ⟨w8.heap.size, 3, none⟩ = some (.string zeroO.ke) := hk 3 _ rfl
          have k4 : W9.cell? ⟨w8.heap.size, 4, none⟩ = some (.string zeroO.af) := hk 4 _ rfl
          have k5 : W9.cell? ⟨w8.heap.size, 5, none⟩ = some (.int .i64 zeroO.n) := hk 5 _ rfl
          have k6 : W9.cell? ⟨w8.heap.size, 6, none⟩ = some (.int .u64 zeroO.up) := hk 6 _ rfl
          have k7 : W9.cell? ⟨w8.heap.size, 7, none⟩ = some (.slice a1 zeroO.ps.length q1) := hk 7 _ rfl
          have k8 : W9.cell? ⟨w8.heap.size, 8, none⟩ = some (.slice a2 zeroO.da.length q2) := hk 8 _ rfl
          have HSz : Hid (Calls Tryz.prog 21 #[opV zeroO (.slice a1 zeroO.ps.length q1) (.slice a2 zeroO.da.length q2), .agg #[.int .u64 0, .int .i64 0, .string ⟨#[]⟩, .string ⟨#[]⟩, .string ⟨#[]⟩, .int .i64 0, .int .u64 0, .slice none 0 0, .slice none 0 0]] W9 fun e w' => e = .returned (.bool true) ∧ Below W9.heap.size W9 w') :=
            same_yes zeroO a1 a2 none none q1 q2 0 0 W9 (Nat.zero_le _) HR9.out.1 HR9.out.2 (RowIn.nil _ _ _) (RowIn.nil _ _ _)
          clear hk hF1 hF2
          rcases hs3 with rfl | rfl
          · go_wp2_with fail
            refine HSz.out.mono ?_
            rintro e w10 ⟨rfl, hb10⟩
            have HB10 := Lib.hid (HB9.out.trans (hb10.mono HB9.out.size))
            clear hb10
            go_wp2
            go_ret
            exact ⟨rfl, HB10.out⟩
          · go_wp2_with fail
            refine HSz.out.mono ?_
            rintro e w10 ⟨rfl, hb10⟩
            have HB10 := Lib.hid (HB9.out.trans (hb10.mono HB9.out.size))
            clear hb10
            go_wp2
            go_ret
            exact ⟨rfl, HB10.out⟩
      | true =>
        rintro e w3 ⟨v, he, hrow, hb3⟩
        rw [hc] at he
        subst he
        have hpl : prL o = printL o := by unfold prL; rw [hc]; rfl
        rw [hpl] at hrow
        have hll := printL_len hc
        have hpf := parseF_print hc HO.out
        have HB3 := Lib.hid (HB2.out.trans (hb3.mono HB2.out.size))
        have HD3 := Lib.hid (HD2.out.trans (hb3.mono HD2.out.size))
        have HP3 : Hid (Calls Tryz.prog 19 #[v] w3 (PaR (o, 200) w3)) := by
          have := parse_any (printL o) v w3 hrow (by have := HFD.out.1; omega) (HL.out.below HB3.out)
          rw [hpf] at this
          exact this
        obtain ⟨va, vc, rfl⟩ := hrow.row.form
        clear hb3 hrow hpl hll hpf
        go_wp2_with fail
        refine HP3.out.mono ?_
        rintro e w4 ⟨pv, dv, rfl, hpv, hdv, hb4⟩
        simp only at hpv hdv
        obtain ⟨a1, q1, rfl⟩ := rowC_formI hpv
        obtain ⟨a2, q2, rfl⟩ := rowC_formB hdv
        have HB4 := Lib.hid (HB3.out.trans (hb4.mono HB3.out.size))
        have HD4 := Lib.hid (HD3.out.trans (hb4.mono HD3.out.size))
        obtain ⟨W5, hW5, HB5, HR5, hb5, hk⟩ := opBoxB HB4.out hpv.row hdv.row HB4.out.size o (.slice a1 o.ps.length q1) (.slice a2 o.da.length q2)
        have HD5 := Lib.hid (HD4.out.trans (hb5.mono HD4.out.size))
        unfold pC at hW5
        replace HB5 := Lib.hid HB5
        replace HR5 := Lib.hid HR5
        clear hpv hdv hb4 hb5
        go_upto_region 8 with fail
        rw [← hW5]
        clear hW5
        have k0 : W5.cell? ⟨w4.heap.size, 0, none⟩ = some (.int .u64 o.id) := hk 0 _ rfl
        have k1 : W5.cell? ⟨w4.heap.size, 1, none⟩ = some (.int .i64 o.kind) := hk 1 _ rfl
        have k2 : W5.cell? ⟨w4.heap.size, 2, none⟩ = some (.string o.bu) := hk 2 _ rfl
        have k3 : W5.cell? ⟨w4.heap.size, 3, none⟩ = some (.string o.ke) := hk 3 _ rfl
        have k4 : W5.cell? ⟨w4.heap.size, 4, none⟩ = some (.string o.af) := hk 4 _ rfl
        have k5 : W5.cell? ⟨w4.heap.size, 5, none⟩ = some (.int .i64 o.n) := hk 5 _ rfl
        have k6 : W5.cell? ⟨w4.heap.size, 6, none⟩ = some (.int .u64 o.up) := hk 6 _ rfl
        have k7 : W5.cell? ⟨w4.heap.size, 7, none⟩ = some (.slice a1 o.ps.length q1) := hk 7 _ rfl
        have k8 : W5.cell? ⟨w4.heap.size, 8, none⟩ = some (.slice a2 o.da.length q2) := hk 8 _ rfl
        have c0 : W5.cell? ⟨w.heap.size, 0, none⟩ = some (.int .u64 o.id) := ((bcell HD5.out).1 _ _ HZ1.out).trans (by obtain ⟨c0, c1, c2, c3, c4, c5, c6, c7, c8⟩ := HC1.out; exact c0)
        have c1 : W5.cell? ⟨w.heap.size, 1, none⟩ = some (.int .i64 o.kind) := ((bcell HD5.out).1 _ _ HZ1.out).trans (by obtain ⟨c0, c1, c2, c3, c4, c5, c6, c7, c8⟩ := HC1.out; exact c1)
        have c2 : W5.cell? ⟨w.heap.size, 2, none⟩ = some (.string o.bu) := ((bcell HD5.out).1 _ _ HZ1.out).trans (by obtain ⟨c0, c1, c2, c3, c4, c5, c6, c7, c8⟩ := HC1.out; exact c2)
        have c3 : W5.cell? ⟨w.heap.size, 3, none⟩ = some (.string o.ke) := ((bcell HD5.out).1 _ _ HZ1.out).trans (by obtain ⟨c0, c1, c2, c3, c4, c5, c6, c7, c8⟩ := HC1.out; exact c3)
        have c4 : W5.cell? ⟨w.heap.size, 4, none⟩ = some (.string o.af) := ((bcell HD5.out).1 _ _ HZ1.out).trans (by obtain ⟨c0, c1, c2, c3, c4, c5, c6, c7, c8⟩ := HC1.out; exact c4)
        have c5 : W5.cell? ⟨w.heap.size, 5, none⟩ = some (.int .i64 o.n) := ((bcell HD5.out).1 _ _ HZ1.out).trans (by obtain ⟨c0, c1, c2, c3, c4, c5, c6, c7, c8⟩ := HC1.out; exact c5)
        have c6 : W5.cell? ⟨w.heap.size, 6, none⟩ = some (.int .u64 o.up) := ((bcell HD5.out).1 _ _ HZ1.out).trans (by obtain ⟨c0, c1, c2, c3, c4, c5, c6, c7, c8⟩ := HC1.out; exact c6)
        have c7 : W5.cell? ⟨w.heap.size, 7, none⟩ = some (.slice pa o.ps.length pc) := ((bcell HD5.out).1 _ _ HZ1.out).trans (by obtain ⟨c0, c1, c2, c3, c4, c5, c6, c7, c8⟩ := HC1.out; exact c7)
        have c8 : W5.cell? ⟨w.heap.size, 8, none⟩ = some (.slice da o.da.length dc) := ((bcell HD5.out).1 _ _ HZ1.out).trans (by obtain ⟨c0, c1, c2, c3, c4, c5, c6, c7, c8⟩ := HC1.out; exact c8)
        have HS5 : Hid (Calls Tryz.prog 21 #[opV o (.slice a1 o.ps.length q1) (.slice a2 o.da.length q2), opV o (.slice pa o.ps.length pc) (.slice da o.da.length dc)] W5 fun e w' => e = .returned (.bool true) ∧ Below W5.heap.size W5 w') :=
          same_yes o a1 a2 pa da q1 q2 pc dc W5 HFD.out.2 HR5.out.1 HR5.out.2 (HPD.out.1.below HB5.out) (HPD.out.2.below HB5.out)
        clear hk
        go_wp2_with fail
        clear c0 c1 c2 c3 c4 c5 c6 c7 c8 k0 k1 k2 k3 k4 k5 k6 k7 k8
        refine HS5.out.mono ?_
        rintro e w6 ⟨rfl, hb6⟩
        have HBt := Lib.hid (HB5.out.trans (hb6.mono HB5.out.size))
        clear hb6 HS5 HK HFw HP1 HCk HP3
        go_wp2_with fail
        refine (HPb.out w6 HBt.out).mono ?_
        rintro e w8 ⟨pv, dv, rfl, hpv, hdv, hb8⟩
        have HB8 := Lib.hid (HBt.out.trans (hb8.mono HBt.out.size))
        have hF1 := fun h : (parseF l).2 = 200 => parseF_200 h
        have hF2 := fun h : (parseF l).2 ≠ 200 => parseF_not h
        clear HPb
        generalize parseF l = rs at *
        obtain ⟨r, s⟩ := rs
        simp only at hF1 hF2 hpv hdv
        obtain ⟨a1, q1, rfl⟩ := rowC_formI hpv
        obtain ⟨a2, q2, rfl⟩ := rowC_formB hdv
        obtain ⟨W9, hW9, HB9, HR9, hb9, hk⟩ := opBoxB HB8.out hpv.row hdv.row HB8.out.size r (.slice a1 r.ps.length q1) (.slice a2 r.da.length q2)
        unfold pC at hW9
        replace HB9 := Lib.hid HB9
        replace HR9 := Lib.hid HR9
        clear hpv hdv hb8 hb9
        go_upto_region 13 with fail
        rw [← hW9]
        clear hW9
        by_cases hs2 : s = 200
        · subst hs2
          obtain ⟨hc9, hO9, hl9⟩ := hF1 rfl
          have k0 : W9.cell? ⟨w8.heap.size, 0, none⟩ = some (.int .u64 r.id) := hk 0 _ rfl
          have k1 : W9.cell? ⟨w8.heap.size, 1, none⟩ = some (.int .i64 r.kind) := hk 1 _ rfl
          have k2 : W9.cell? ⟨w8.heap.size, 2, none⟩ = some (.string r.bu) := hk 2 _ rfl
          have k3 : W9.cell? ⟨w8.heap.size, 3, none⟩ = some (.string r.ke) := hk 3 _ rfl
          have k4 : W9.cell? ⟨w8.heap.size, 4, none⟩ = some (.string r.af) := hk 4 _ rfl
          have k5 : W9.cell? ⟨w8.heap.size, 5, none⟩ = some (.int .i64 r.n) := hk 5 _ rfl
          have k6 : W9.cell? ⟨w8.heap.size, 6, none⟩ = some (.int .u64 r.up) := hk 6 _ rfl
          have k7 : W9.cell? ⟨w8.heap.size, 7, none⟩ = some (.slice a1 r.ps.length q1) := hk 7 _ rfl
          have k8 : W9.cell? ⟨w8.heap.size, 8, none⟩ = some (.slice a2 r.da.length q2) := hk 8 _ rfl
          clear hk hF1 hF2
          have HPr : Hid (Calls Tryz.prog 13 #[opV r (.slice a1 r.ps.length q1) (.slice a2 r.da.length q2)] W9 (PrR r W9)) := print_any r _ _ W9 HR9.out.1 HR9.out.2 (by have := (sm_of_chk hc9).bu; omega) hO9 (HL.out.below HB9.out)
          have hpl : prL r = l := by unfold prL; rw [hc9]; exact hl9
          have HC9 := Lib.hid hc9
          clear hO9 hc9 hl9
          go_wp2_with fail
          refine HPr.out.mono ?_
          rintro e w10 ⟨v, he, hrow, hb10⟩
          rw [HC9.out] at he
          subst he
          rw [hpl] at hrow
          have HB10 := Lib.hid (HB9.out.trans (hb10.mono HB9.out.size))
          obtain ⟨a3, c3, rfl⟩ := rowC_formB hrow
          have hv1 := convert_row hrow.row
          have hv2 := convert_row (HM.out.row.below HB10.out)
          clear hrow hb10 hpl k0 k1 k2 k3 k4 k5 k6 k7 k8
          go_wp2
          go_ret
          exact ⟨rfl, HB10.out⟩
        · obtain ⟨rfl, hs3⟩ := hF2 hs2
          have k0 : W9.cell? ⟨w8.heap.size, 0, none⟩ = some (.int .u64 zeroO.id) := hk 0 _ rfl
          have k1 : W9.cell? ⟨w8.heap.size, 1, none⟩ = some (.int .i64 zeroO.kind) := hk 1 _ rfl
          have k2 : W9.cell? ⟨w8.heap.size, 2, none⟩ = some (.string zeroO.bu) := hk 2 _ rfl
          have k3 : W9.cell? ⟨w8.heap.size, 3, none⟩ = some (.string zeroO.ke) := hk 3 _ rfl
          have k4 : W9.cell? ⟨w8.heap.size, 4, none⟩ = some (.string zeroO.af) := hk 4 _ rfl
          have k5 : W9.cell? ⟨w8.heap.size, 5, none⟩ = some (.int .i64 zeroO.n) := hk 5 _ rfl
          have k6 : W9.cell? ⟨w8.heap.size, 6, none⟩ = some (.int .u64 zeroO.up) := hk 6 _ rfl
          have k7 : W9.cell? ⟨w8.heap.size, 7, none⟩ = some (.slice a1 zeroO.ps.length q1) := hk 7 _ rfl
          have k8 : W9.cell? ⟨w8.heap.size, 8, none⟩ = some (.slice a2 zeroO.da.length q2) := hk 8 _ rfl
          have HSz : Hid (Calls Tryz.prog 21 #[opV zeroO (.slice a1 zeroO.ps.length q1) (.slice a2 zeroO.da.length q2), .agg #[.int .u64 0, .int .i64 0, .string ⟨#[]⟩, .string ⟨#[]⟩, .string ⟨#[]⟩, .int .i64 0, .int .u64 0, .slice none 0 0, .slice none 0 0]] W9 fun e w' => e = .returned (.bool true) ∧ Below W9.heap.size W9 w') :=
            same_yes zeroO a1 a2 none none q1 q2 0 0 W9 (Nat.zero_le _) HR9.out.1 HR9.out.2 (RowIn.nil _ _ _) (RowIn.nil _ _ _)
          clear hk hF1 hF2
          rcases hs3 with rfl | rfl
          · go_wp2_with fail
            refine HSz.out.mono ?_
            rintro e w10 ⟨rfl, hb10⟩
            have HB10 := Lib.hid (HB9.out.trans (hb10.mono HB9.out.size))
            clear hb10
            go_wp2
            go_ret
            exact ⟨rfl, HB10.out⟩
          · go_wp2_with fail
            refine HSz.out.mono ?_
            rintro e w10 ⟨rfl, hb10⟩
            have HB10 := Lib.hid (HB9.out.trans (hb10.mono HB9.out.size))
            clear hb10
            go_wp2
            go_ret
            exact ⟨rfl, HB10.out⟩
end Go.Proofs.YtnlooggibopknaaGreatDoor
