/- The law FrontPrints, walked. -/
import Derived.Test.YtnlooggibopknaaGreatDoorW41
namespace Go.Proofs.YtnlooggibopknaaGreatDoor
open Go.RowKit Go.Sort

theorem unesc_form (s : ByteArray) : ∃ x y, unescE s = .returned (.tuple #[.string x, .bool y]) := by
  unfold unescE
  split
  · exact ⟨_, _, rfl⟩
  · exact ⟨_, _, rfl⟩
theorem unesc_back (s : ByteArray) : unescE (escB s) = .returned (.tuple #[.string s, .bool true]) := by
  rw [← unescE_some (t := bl s) (unesc_esc s)]
theorem same_no (s : ByteArray) : (s.toList != s.toList) = false := by simp
/-- The cells of a boxed op, in whatever later world. -/
theorem box_cells {w W : World} {cs : Array Value} {t : TypeId} (hb : Below (w.alloc (.cells cs t)).heap.size (w.alloc (.cells cs t)) W) : ∀ j u, cs[j]? = some u → W.cell? ⟨w.heap.size, j, none⟩ = some u := fun j u h => op_cells hb j u h

set_option maxHeartbeats 4000000 in
set_option maxRecDepth 100000 in
theorem prints_law (o : O) (pa da : Option Addr) (pc dc : Nat) (s : ByteArray) (w : World) (hp : RowIn w (.slice pa o.ps.length pc) (icells o.ps)) (hd : RowIn w (.slice da o.da.length dc) (bcells o.da)) (hO : OkO o) (hR : RdO o) (hs : s.size ≤ 140737488355328) (hL : Lib0 w) :
    Calls Tryz.prog 3 #[opV o (.slice pa o.ps.length pc) (.slice da o.da.length dc), .string s] w fun e w' => e = .returned (.bool true) ∧ Below w.heap.size w w' := by
  have HB0 : Hid (∀ x, Below w.heap.size w (w.alloc x)) := fun x => (Below.refl _ _).alloc (Nat.le_refl _) x
  have HK : Hid (∀ x, Calls Tryz.prog 11 #[] (w.alloc x) fun e w' => e = .returned (.bool true) ∧ Below (w.alloc x).heap.size (w.alloc x) w') := fun x => known_law _ (hL.below (HB0.out x))
  have HFw : Hid (∀ W, Calls Tryz.prog 12 #[opV o (.slice pa o.ps.length pc) (.slice da o.da.length dc)] W fun e w' => e = .returned (.bool (fewB o)) ∧ Below W.heap.size W w') := fun W => few_law o pa da pc dc W hR
  cases hf : fewB o with
  | false =>
    clear hp hd hO hR hL
    rw [hf] at HFw
    go_enter Tryz.func3, Tryz.ntmps3
    go_wp2_with fail
    refine (HK.out _).mono ?_
    rintro e w1 ⟨rfl, hb1⟩
    have c0 : w1.cell? ⟨w.heap.size, 0, none⟩ = some (.int .u64 o.id) := op_cells hb1 0 _ rfl
    have c1 : w1.cell? ⟨w.heap.size, 1, none⟩ = some (.int .i64 o.kind) := op_cells hb1 1 _ rfl
    have c2 : w1.cell? ⟨w.heap.size, 2, none⟩ = some (.string o.bu) := op_cells hb1 2 _ rfl
    have c3 : w1.cell? ⟨w.heap.size, 3, none⟩ = some (.string o.ke) := op_cells hb1 3 _ rfl
    have c4 : w1.cell? ⟨w.heap.size, 4, none⟩ = some (.string o.af) := op_cells hb1 4 _ rfl
    have c5 : w1.cell? ⟨w.heap.size, 5, none⟩ = some (.int .i64 o.n) := op_cells hb1 5 _ rfl
    have c6 : w1.cell? ⟨w.heap.size, 6, none⟩ = some (.int .u64 o.up) := op_cells hb1 6 _ rfl
    have c7 : w1.cell? ⟨w.heap.size, 7, none⟩ = some (.slice pa o.ps.length pc) := op_cells hb1 7 _ rfl
    have c8 : w1.cell? ⟨w.heap.size, 8, none⟩ = some (.slice da o.da.length dc) := op_cells hb1 8 _ rfl
    have HB1 := Lib.hid (below_box hb1)
    clear hb1
    go_wp2_with fail
    refine (HFw.out _).mono ?_
    rintro e w2 ⟨rfl, hb2⟩
    have HB2 := Lib.hid (HB1.out.trans (hb2.mono HB1.out.size))
    clear hb2
    go_wp2
    go_ret
    exact ⟨rfl, HB2.out⟩
  | true =>
    have hfs : o.bu.size + o.ke.size + o.af.size + o.da.length ≤ 262144 := by unfold fewB at hf; simp only [Bool.and_eq_true, decide_eq_true_eq] at hf; exact hf.1
    have HP1 : Hid (∀ W, Below w.heap.size w W → Calls Tryz.prog 13 #[opV o (.slice pa o.ps.length pc) (.slice da o.da.length dc)] W (PrR o W)) := fun W hb => print_any o _ _ W (hp.below hb) (hd.below hb) (by omega) hO (hL.below hb)
    have HP2 : Hid (∀ W, Below w.heap.size w W → Calls Tryz.prog 14 #[opV o (.slice pa o.ps.length pc) (.slice da o.da.length dc)] W (PrR o W)) := fun W hb => printR_any o _ _ W (hp.below hb) (hd.below hb) (by omega) hO
    rw [hf] at HFw
    clear hp hd hO hR hL hfs hf
    by_cases h10 : 10000 < s.size
    · have h10i : (10000 : Int) < (s.size : Int) := by omega
      go_enter Tryz.func3, Tryz.ntmps3
      go_wp2_with fail
      refine (HK.out _).mono ?_
      rintro e w1 ⟨rfl, hb1⟩
      have c0 : w1.cell? ⟨w.heap.size, 0, none⟩ = some (.int .u64 o.id) := op_cells hb1 0 _ rfl
      have c1 : w1.cell? ⟨w.heap.size, 1, none⟩ = some (.int .i64 o.kind) := op_cells hb1 1 _ rfl
      have c2 : w1.cell? ⟨w.heap.size, 2, none⟩ = some (.string o.bu) := op_cells hb1 2 _ rfl
      have c3 : w1.cell? ⟨w.heap.size, 3, none⟩ = some (.string o.ke) := op_cells hb1 3 _ rfl
      have c4 : w1.cell? ⟨w.heap.size, 4, none⟩ = some (.string o.af) := op_cells hb1 4 _ rfl
      have c5 : w1.cell? ⟨w.heap.size, 5, none⟩ = some (.int .i64 o.n) := op_cells hb1 5 _ rfl
      have c6 : w1.cell? ⟨w.heap.size, 6, none⟩ = some (.int .u64 o.up) := op_cells hb1 6 _ rfl
      have c7 : w1.cell? ⟨w.heap.size, 7, none⟩ = some (.slice pa o.ps.length pc) := op_cells hb1 7 _ rfl
      have c8 : w1.cell? ⟨w.heap.size, 8, none⟩ = some (.slice da o.da.length dc) := op_cells hb1 8 _ rfl
      have HB1 := Lib.hid (below_box hb1)
      clear hb1
      go_wp2_with fail
      refine (HFw.out _).mono ?_
      rintro e w2 ⟨rfl, hb2⟩
      have HB2 := Lib.hid (HB1.out.trans (hb2.mono HB1.out.size))
      clear hb2
      go_wp2
      go_ret
      exact ⟨rfl, HB2.out⟩
    · have h10i : ¬ (10000 : Int) < (s.size : Int) := by omega
      have hz := escB_size s
      obtain ⟨ux, uy, hu⟩ := unesc_form s
      have HE1 : Hid (∀ W, Calls Tryz.prog 15 #[.string s] W fun e w' => e = .returned (.string (escB s)) ∧ Below W.heap.size W w') := fun W => escape_any s W (by omega)
      have HE2 : Hid (∀ W, Calls Tryz.prog 16 #[.string s] W fun e w' => e = .returned (.string (escB s)) ∧ Below W.heap.size W w') := fun W => escapeR_any s W (by omega)
      have HU1 : Hid (∀ W, Calls Tryz.prog 17 #[.string s] W fun e w' => e = .returned (.tuple #[.string ux, .bool uy]) ∧ Below W.heap.size W w') := fun W => hu ▸ unescape_any s W (by omega)
      have HU2 : Hid (∀ W, Calls Tryz.prog 18 #[.string s] W fun e w' => e = .returned (.tuple #[.string ux, .bool uy]) ∧ Below W.heap.size W w') := fun W => hu ▸ unescapeR_any s W (by omega)
      have HU3 : Hid (∀ W, Calls Tryz.prog 17 #[.string (escB s)] W fun e w' => e = .returned (.tuple #[.string s, .bool true]) ∧ Below W.heap.size W w') := fun W => unesc_back s ▸ unescape_any (escB s) W (by omega)
      have hq1 := same_no (escB s)
      have hq2 := same_no ux
      have hq3 : (uy != uy) = false := by simp
      have hq4 : (s.toList == s.toList) = true := by simp
      have hq5 := same_no (mkB (prL o))
      clear hu hz
      go_enter Tryz.func3, Tryz.ntmps3
      go_wp2_with fail
      refine (HK.out _).mono ?_
      rintro e w1 ⟨rfl, hb1⟩
      have c0 : w1.cell? ⟨w.heap.size, 0, none⟩ = some (.int .u64 o.id) := op_cells hb1 0 _ rfl
      have c1 : w1.cell? ⟨w.heap.size, 1, none⟩ = some (.int .i64 o.kind) := op_cells hb1 1 _ rfl
      have c2 : w1.cell? ⟨w.heap.size, 2, none⟩ = some (.string o.bu) := op_cells hb1 2 _ rfl
      have c3 : w1.cell? ⟨w.heap.size, 3, none⟩ = some (.string o.ke) := op_cells hb1 3 _ rfl
      have c4 : w1.cell? ⟨w.heap.size, 4, none⟩ = some (.string o.af) := op_cells hb1 4 _ rfl
      have c5 : w1.cell? ⟨w.heap.size, 5, none⟩ = some (.int .i64 o.n) := op_cells hb1 5 _ rfl
      have c6 : w1.cell? ⟨w.heap.size, 6, none⟩ = some (.int .u64 o.up) := op_cells hb1 6 _ rfl
      have c7 : w1.cell? ⟨w.heap.size, 7, none⟩ = some (.slice pa o.ps.length pc) := op_cells hb1 7 _ rfl
      have c8 : w1.cell? ⟨w.heap.size, 8, none⟩ = some (.slice da o.da.length dc) := op_cells hb1 8 _ rfl
      have HB1 := Lib.hid (below_box hb1)
      have HZ1 : Hid (w.heap.size < w1.heap.size) := by unfold Hid; have := hb1.size; rw [World.size_alloc] at this; omega
      clear hb1
      go_wp2_with fail
      refine (HFw.out _).mono ?_
      rintro e w2 ⟨rfl, hb2⟩
      have HC1 := Lib.hid (show _ ∧ _ ∧ _ ∧ _ ∧ _ ∧ _ ∧ _ ∧ _ ∧ _ from ⟨c0, c1, c2, c3, c4, c5, c6, c7, c8⟩)
      clear c0 c1 c2 c3 c4 c5 c6 c7 c8
      have c0 : w2.cell? ⟨w.heap.size, 0, none⟩ = some (.int .u64 o.id) := ((bcell hb2).1 _ _ HZ1.out).trans (by obtain ⟨c0, c1, c2, c3, c4, c5, c6, c7, c8⟩ := HC1.out; exact c0)
      have c1 : w2.cell? ⟨w.heap.size, 1, none⟩ = some (.int .i64 o.kind) := ((bcell hb2).1 _ _ HZ1.out).trans (by obtain ⟨c0, c1, c2, c3, c4, c5, c6, c7, c8⟩ := HC1.out; exact c1)
      have c2 : w2.cell? ⟨w.heap.size, 2, none⟩ = some (.string o.bu) := ((bcell hb2).1 _ _ HZ1.out).trans (by obtain ⟨c0, c1, c2, c3, c4, c5, c6, c7, c8⟩ := HC1.out; exact c2)
      have c3 : w2.cell? ⟨w.heap.size, 3, none⟩ = some (.string o.ke) := ((bcell hb2).1 _ _ HZ1.out).trans (by obtain ⟨c0, c1, c2, c3, c4, c5, c6, c7, c8⟩ := HC1.out; exact c3)
      have c4 : w2.cell? ⟨w.heap.size, 4, none⟩ = some (.string o.af) := ((bcell hb2).1 _ _ HZ1.out).trans (by obtain ⟨c0, c1, c2, c3, c4, c5, c6, c7, c8⟩ := HC1.out; exact c4)
      have c5 : w2.cell? ⟨w.heap.size, 5, none⟩ = some (.int .i64 o.n) := ((bcell hb2).1 _ _ HZ1.out).trans (by obtain ⟨c0, c1, c2, c3, c4, c5, c6, c7, c8⟩ := HC1.out; exact c5)
      have c6 : w2.cell? ⟨w.heap.size, 6, none⟩ = some (.int .u64 o.up) := ((bcell hb2).1 _ _ HZ1.out).trans (by obtain ⟨c0, c1, c2, c3, c4, c5, c6, c7, c8⟩ := HC1.out; exact c6)
      have c7 : w2.cell? ⟨w.heap.size, 7, none⟩ = some (.slice pa o.ps.length pc) := ((bcell hb2).1 _ _ HZ1.out).trans (by obtain ⟨c0, c1, c2, c3, c4, c5, c6, c7, c8⟩ := HC1.out; exact c7)
      have c8 : w2.cell? ⟨w.heap.size, 8, none⟩ = some (.slice da o.da.length dc) := ((bcell hb2).1 _ _ HZ1.out).trans (by obtain ⟨c0, c1, c2, c3, c4, c5, c6, c7, c8⟩ := HC1.out; exact c8)
      have HB2 := Lib.hid (HB1.out.trans (hb2.mono HB1.out.size))
      have HZ2 : Hid (w.heap.size < w2.heap.size) := Nat.lt_of_lt_of_le HZ1.out hb2.size
      clear hb2 HC1
      go_wp2_with fail
      refine (HP1.out _ HB2.out).mono ?_
      rintro e w3 ⟨va, rfl, hra, hb3⟩
      obtain ⟨aa, ac, rfl⟩ := hra.row.form
      have hal : (bcells (prL o)).length = (prL o).length := bcells_len _
      rw [hal] at hra
      simp only [hal]
      obtain ⟨ee, hee⟩ : ∃ ee : Int, (if chkB o = true then (0 : Int) else 1) = ee := ⟨_, rfl⟩
      simp only [hee]
      have HEE := Lib.hid hee
      have hq6 : (ee != ee) = false := by simp
      clear hee
      have HC2 := Lib.hid (show _ ∧ _ ∧ _ ∧ _ ∧ _ ∧ _ ∧ _ ∧ _ ∧ _ from ⟨c0, c1, c2, c3, c4, c5, c6, c7, c8⟩)
      clear c0 c1 c2 c3 c4 c5 c6 c7 c8
      have c0 : w3.cell? ⟨w.heap.size, 0, none⟩ = some (.int .u64 o.id) := ((bcell hb3).1 _ _ HZ2.out).trans (by obtain ⟨c0, c1, c2, c3, c4, c5, c6, c7, c8⟩ := HC2.out; exact c0)
      have c1 : w3.cell? ⟨w.heap.size, 1, none⟩ = some (.int .i64 o.kind) := ((bcell hb3).1 _ _ HZ2.out).trans (by obtain ⟨c0, c1, c2, c3, c4, c5, c6, c7, c8⟩ := HC2.out; exact c1)
      have c2 : w3.cell? ⟨w.heap.size, 2, none⟩ = some (.string o.bu) := ((bcell hb3).1 _ _ HZ2.out).trans (by obtain ⟨c0, c1, c2, c3, c4, c5, c6, c7, c8⟩ := HC2.out; exact c2)
      have c3 : w3.cell? ⟨w.heap.size, 3, none⟩ = some (.string o.ke) := ((bcell hb3).1 _ _ HZ2.out).trans (by obtain ⟨c0, c1, c2, c3, c4, c5, c6, c7, c8⟩ := HC2.out; exact c3)
      have c4 : w3.cell? ⟨w.heap.size, 4, none⟩ = some (.string o.af) := ((bcell hb3).1 _ _ HZ2.out).trans (by obtain ⟨c0, c1, c2, c3, c4, c5, c6, c7, c8⟩ := HC2.out; exact c4)
      have c5 : w3.cell? ⟨w.heap.size, 5, none⟩ = some (.int .i64 o.n) := ((bcell hb3).1 _ _ HZ2.out).trans (by obtain ⟨c0, c1, c2, c3, c4, c5, c6, c7, c8⟩ := HC2.out; exact c5)
      have c6 : w3.cell? ⟨w.heap.size, 6, none⟩ = some (.int .u64 o.up) := ((bcell hb3).1 _ _ HZ2.out).trans (by obtain ⟨c0, c1, c2, c3, c4, c5, c6, c7, c8⟩ := HC2.out; exact c6)
      have c7 : w3.cell? ⟨w.heap.size, 7, none⟩ = some (.slice pa o.ps.length pc) := ((bcell hb3).1 _ _ HZ2.out).trans (by obtain ⟨c0, c1, c2, c3, c4, c5, c6, c7, c8⟩ := HC2.out; exact c7)
      have c8 : w3.cell? ⟨w.heap.size, 8, none⟩ = some (.slice da o.da.length dc) := ((bcell hb3).1 _ _ HZ2.out).trans (by obtain ⟨c0, c1, c2, c3, c4, c5, c6, c7, c8⟩ := HC2.out; exact c8)
      have HB3 := Lib.hid (HB2.out.trans (hb3.mono HB2.out.size))
      have HRA := Lib.hid hra
      clear hb3 hra HC2
      go_wp2_with fail
      refine (HP2.out _ HB3.out).mono ?_
      rintro e w4 ⟨vb, rfl, hrb, hb4⟩
      obtain ⟨ba, bc, rfl⟩ := hrb.row.form
      rw [hal] at hrb
      simp only [hal, HEE.out]
      clear c0 c1 c2 c3 c4 c5 c6 c7 c8
      have hcv1 : (convert 24 9 (.slice aa (prL o).length ac)).run Tryz.prog w4 = .ok (.string (mkB (prL o))) w4 := convert_row (HRA.out.row.below hb4)
      have hcv2 : (convert 24 9 (.slice ba (prL o).length bc)).run Tryz.prog w4 = .ok (.string (mkB (prL o))) w4 := convert_row hrb.row
      have HB4 := Lib.hid (HB3.out.trans (hb4.mono HB3.out.size))
      clear hb4 hrb hal
      go_wp2_with fail
      refine (HE1.out _).mono ?_
      rintro e w5 ⟨rfl, hb5⟩
      have HB5 := Lib.hid (HB4.out.trans (hb5.mono HB4.out.size))
      clear hb5
      go_wp2_with fail
      refine (HE2.out _).mono ?_
      rintro e w6 ⟨rfl, hb6⟩
      have HB6 := Lib.hid (HB5.out.trans (hb6.mono HB5.out.size))
      clear hb6 hcv1 hcv2
      go_wp2_with fail
      refine (HU1.out _).mono ?_
      rintro e w7 ⟨rfl, hb7⟩
      have HB7 := Lib.hid (HB6.out.trans (hb7.mono HB6.out.size))
      clear hb7
      go_wp2_with fail
      refine (HU2.out _).mono ?_
      rintro e w8 ⟨rfl, hb8⟩
      have HB8 := Lib.hid (HB7.out.trans (hb8.mono HB7.out.size))
      clear hb8
      go_wp2_with fail
      refine (HE1.out _).mono ?_
      rintro e w9 ⟨rfl, hb9⟩
      have HB9 := Lib.hid (HB8.out.trans (hb9.mono HB8.out.size))
      clear hb9
      go_wp2_with fail
      refine (HU3.out _).mono ?_
      rintro e w10 ⟨rfl, hb10⟩
      have HB10 := Lib.hid (HB9.out.trans (hb10.mono HB9.out.size))
      clear hb10
      go_wp2
      go_ret
      exact ⟨rfl, HB10.out⟩
end Go.Proofs.YtnlooggibopknaaGreatDoor
