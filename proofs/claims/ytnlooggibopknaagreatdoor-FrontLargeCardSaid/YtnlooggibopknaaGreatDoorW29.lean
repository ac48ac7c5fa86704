/- The walk of the parser's head: a right first line; at any text. -/
import Derived.Test.YtnlooggibopknaaGreatDoorW24
namespace Go.Proofs.YtnlooggibopknaaGreatDoor
open Go.RowKit Go.Sort

theorem cellX {pb B : Nat} {a w : World} (h : BelowX pb B a w) {b o : Nat} {v : Value} (hv : a.cell? ⟨b, o, none⟩ = some v) (hb : b < B) (hn : b ≠ pb) : w.cell? ⟨b, o, none⟩ = some v :=
  (World.cell?_of_block (a := ⟨b, o, none⟩) (h.block b hb hn)).trans hv

set_option maxHeartbeats 2000000 in
set_option maxRecDepth 1000000 in
theorem head_go (s l0 l1 l2 a b c : ByteArray) (w0 w : World) (pb : Nat) (hL : Lib0 w0) (hb : BelowX pb w0.heap.size w0 w) (hpb : 8 ≤ pb) (hs : s.size ≤ 1073741824) (hP : PIs w pb zeroO (.slice none 0 0) (.slice none 0 0)) (h : spl s sEnd = [l0, l1, l2]) (h3 : spl l0 sSpace = [a, b, c]) (hc : c = sVer) :
    Calls Tryz.prog 46 #[.pointer (some ⟨pb, 0, none⟩), .string s] w (PrH (headF s) w0 pb) := by
  have HF : Hid (headF s = (targetF a b).bind (headT l1 l2)) := by
    unfold Hid headF
    rw [h]
    unfold headW
    simp only
    rw [h3]
    simp only
    rw [if_pos hc]
  have hz0 : l0.size ≤ s.size := spl_size (sep := sEnd) (by rw [h]; simp)
  have hz1 : l1.size ≤ s.size := spl_size (sep := sEnd) (by rw [h]; simp)
  have hz2 : l2.size ≤ s.size := spl_size (sep := sEnd) (by rw [h]; simp)
  have hzb : b.size ≤ l0.size := spl_size (sep := sSpace) (by rw [h3]; simp)
  have HS : Hid (Calls Tryz.prog 80 #[.string s, .string ⟨#[13, 10]⟩] w _) := split3 (sep := ⟨#[13, 10]⟩) hs (by decide) (hL.belowX hpb hb) h
  have HS2 : Hid (∀ W, BelowX pb w0.heap.size w0 W → Calls Tryz.prog 80 #[.string l0, .string ⟨#[32]⟩] W _) := fun W hW => split3 (sep := ⟨#[32]⟩) (by omega) (by decide) (hL.belowX hpb hW) h3
  have hq : (c.toList == [71, 76, 67, 47, 49]) = true := by rw [q_of]; exact decide_eq_true hc
  have HB : Hid (∀ x, BelowX pb w0.heap.size w0 (w.alloc x)) := fun x => hb.alloc hb.size x
  have HPA : Hid (∀ x, PIs (w.alloc x) pb zeroO (.slice none 0 0) (.slice none 0 0)) := fun x => hP.below ((Below.refl _ _).alloc (Nat.le_refl _) x) hP.lt
  have hlt := hP.lt
  have hm0 : (w.alloc (.cells #[.string l0, .string l1, .string l2] 9)).cell? ⟨w.heap.size, 1, none⟩ = some (.string l1) := cell_of_row _ _ 1 _ _ _ (heap_alloc_new w _)
  have hm1 : (w.alloc (.cells #[.string l0, .string l1, .string l2] 9)).cell? ⟨w.heap.size, 2, none⟩ = some (.string l2) := cell_of_row _ _ 2 _ _ _ (heap_alloc_new w _)
  have hsA : (w.alloc (.cells #[.string l0, .string l1, .string l2] 9)).heap.size = w.heap.size + 1 := World.size_alloc _ _
  have HM0 := Lib.hid hm0
  have HM1 := Lib.hid hm1
  have HSA := Lib.hid hsA
  clear h hb h3 hc hP hm0 hm1 hsA
  go_enter Tryz.func46, Tryz.ntmps46
  go_wp2_with fail
  refine HS.out.mono ?_
  rintro e w1 ⟨rfl, rfl⟩
  go_wp2_with (go_at_call 47; refine (must_yes _).mono ?_; rintro e w' ⟨rfl, rfl⟩)
  have HBA := HB.out (.cells #[.string l0, .string l1, .string l2] 9)
  have hPA := HPA.out (.cells #[.string l0, .string l1, .string l2] 9)
  generalize w.alloc (.cells #[.string l0, .string l1, .string l2] 9) = wA at *
  have HB2 : Hid (∀ x, BelowX pb w0.heap.size w0 (wA.alloc x)) := fun x => HBA.alloc HBA.size x
  have HPB : Hid (∀ x, PIs (wA.alloc x) pb zeroO (.slice none 0 0) (.slice none 0 0)) := fun x => hPA.below ((Below.refl _ _).alloc (Nat.le_refl _) x) hPA.lt
  have HNB : Hid (∀ x j v, wA.cell? ⟨w.heap.size, j, none⟩ = some v → (wA.alloc x).cell? ⟨w.heap.size, j, none⟩ = some v) := fun x j v hv => ((bcell ((Below.refl wA.heap.size wA).alloc (Nat.le_refl _) x)).1 _ _ (by have := HSA.out; omega)).trans hv
  clear hPA
  refine (HS2.out _ HBA).mono ?_
  rintro e w2 ⟨rfl, rfl⟩
  go_wp2_with (go_at_call 47; refine (must_yes _).mono ?_; rintro e w' ⟨rfl, rfl⟩)
  have hd0 : (wA.alloc (.cells #[.string a, .string b, .string c] 9)).drew.cell? ⟨wA.heap.size, 0, none⟩ = some (.string a) := cell_of_row _ _ 0 _ _ _ (heap_alloc_new wA _)
  have hd1 : (wA.alloc (.cells #[.string a, .string b, .string c] 9)).drew.cell? ⟨wA.heap.size, 1, none⟩ = some (.string b) := cell_of_row _ _ 1 _ _ _ (heap_alloc_new wA _)
  have HBD : Hid (BelowX pb w0.heap.size w0 (wA.alloc (.cells #[.string a, .string b, .string c] 9)).drew) := (HB2.out (.cells #[.string a, .string b, .string c] 9)).drewN 1
  have HPD : Hid (PIs (wA.alloc (.cells #[.string a, .string b, .string c] 9)).drew pb zeroO (.slice none 0 0) (.slice none 0 0)) := HPB.out (.cells #[.string a, .string b, .string c] 9)
  have HK1 : Hid ((wA.alloc (.cells #[.string a, .string b, .string c] 9)).drew.cell? ⟨w.heap.size, 1, none⟩ = some (.string l1)) := HNB.out (.cells #[.string a, .string b, .string c] 9) 1 _ HM0.out
  have HK2 : Hid ((wA.alloc (.cells #[.string a, .string b, .string c] 9)).drew.cell? ⟨w.heap.size, 2, none⟩ = some (.string l2)) := HNB.out (.cells #[.string a, .string b, .string c] 9) 2 _ HM1.out
  have HSD : Hid (w.heap.size < (wA.alloc (.cells #[.string a, .string b, .string c] 9)).drew.heap.size) := by
    show w.heap.size < (wA.alloc (.cells #[.string a, .string b, .string c] 9)).heap.size
    rw [World.size_alloc]; have := HSA.out; omega
  generalize wA.alloc (.cells #[.string a, .string b, .string c] 9) = wB at *
  clear HNB HM0 HM1 HPB HB2 HBA
  go_still_tail 7, (by kernel_rfl)
  change wpList _ _ _ _ _ wB.drew
  generalize wB.drew = wD at *
  clear hd0 hd1
  go_wp2_with fail
  refine (target_p_any a b wD wD pb (hL.belowX hpb HBD.out) (BelowX.refl pb wD) hpb (by omega) HPD.out).mono ?_
  rintro e w3 ⟨hb3, ⟨hn, rfl⟩ | ⟨o, pv, ho, rfl, hP3, hR3⟩⟩
  · have hB3 := HBD.out.andX hb3 HBD.out.size
    unfold badE
    go_wp2_with fail
    exact ⟨rfl, hB3, .inl ⟨by rw [HF.out, hn]; rfl, rfl⟩⟩
  have HB3 := Lib.hid (HBD.out.andX hb3 HBD.out.size)
  have k1 := cellX hb3 HK1.out HSD.out (by omega)
  have K2 := Lib.hid (cellX hb3 HK2.out HSD.out (by omega))
  have HS3 : Hid (w.heap.size < w3.heap.size) := by have := HSD.out; have := hb3.size; unfold Hid; omega
  have HF3 : Hid (headF s = headT l1 l2 o) := by rw [HF.out, ho]; rfl
  have HP3 := Lib.hid hP3
  have HR3 := Lib.hid hR3
  clear hb3 hP3 hR3 ho HK1 HK2 HSD HF HBD HPD
  have hne : w.heap.size ≠ pb := by omega
  by_cases h1 : hp l1 sId = true
  · have hp1 : hp l1 ⟨#[105, 100, 58, 32]⟩ = true := h1
    have ht1 : (tp l1 ⟨#[105, 100, 58, 32]⟩).size ≤ 1073741824 := by show (List.toArray _).size ≤ _; rw [List.size_toArray]; exact tp_len _ _ (by omega)
    have HF4 : Hid (headF s = (unhexL (tp l1 sId).data.toList).bind fun u => if hp l2 sLen = true then some (setId o u, tp l2 sLen) else none) := by unfold Hid; rw [HF3.out]; unfold headT; rw [if_pos h1]
    clear h1 HF3
    go_wp2_with (first | (go_at_call 82; refine (cutPrefix_any _ _ _).mono ?_; rintro e w' ⟨rfl, rfl⟩) | (go_at_call 47; refine (must_yes _).mono ?_; rintro e w' ⟨rfl, rfl⟩))
    cases hx : unhexL (tp l1 sId).data.toList with
    | none =>
      have HF5 : Hid (headF s = none) := by unfold Hid; rw [HF4.out, hx]; rfl
      refine (un_no ht1 (hL.belowX hpb HB3.out) hx).mono ?_
      rintro e w4 ⟨⟨n, rfl⟩, hb4⟩
      have hP4 := HP3.out.below hb4 HP3.out.lt
      have HB4 := Lib.hid (HB3.out.trans (hb4.mono HB3.out.size))
      have c0 := hP4.cell 0 _ rfl
      have f0 := hP4.fz 0
      clear hb4 hP4 hx
      go_wp2_with (go_at_call 47; refine (must_no _).mono ?_; rintro e w' ⟨rfl, rfl⟩)
      exact ⟨rfl, HB4.out.setP _ _, .inl ⟨HF5.out, rfl⟩⟩
    | some u =>
      have HF5 : Hid (headF s = if hp l2 sLen = true then some (setId o u, tp l2 sLen) else none) := by unfold Hid; rw [HF4.out, hx]; rfl
      refine (un_yes ht1 (hL.belowX hpb HB3.out) hx).mono ?_
      rintro e w4 ⟨rfl, hb4⟩
      have hP4 := HP3.out.below hb4 HP3.out.lt
      have hR4 := HR3.out.below hb4
      have hB4 := HB3.out.trans (hb4.mono HB3.out.size)
      have c0 := hP4.cell 0 _ rfl
      have f0 := hP4.fz 0
      have k4 : (w4.setCell ⟨pb, 0, none⟩ (.int .u64 (u : Int))).cell? ⟨w.heap.size, 2, none⟩ = some (.string l2) := by
        rw [World.cell?_of_block (a := ⟨w.heap.size, 2, none⟩) (Below.heap_setCell w4 ⟨pb, 0, none⟩ _ w.heap.size hne), (bcell hb4).1 _ _ HS3.out]
        exact K2.out
      have hP5 : PIs (w4.setCell ⟨pb, 0, none⟩ (.int .u64 (u : Int))) pb (setId o u) pv (.slice none 0 0) := hP4.set 0 _ rfl
      have hR5 : RowX pb (w4.setCell ⟨pb, 0, none⟩ (.int .u64 (u : Int))) pv (icells o.ps) := hR4.set (Nat.le_refl _) _ _
      have hB5 := hB4.setP 0 (.int .u64 (u : Int))
      have HP5 := Lib.hid hP5
      have HR5 := Lib.hid hR5
      have HB5 := Lib.hid hB5
      clear hb4 hP4 hx hP5 hB4 hB5 hR4 hR5
      by_cases h2 : hp l2 sLen = true
      · have HF6 : Hid (headF s = some (setId o u, tp l2 sLen)) := by unfold Hid; rw [HF5.out, if_pos h2]
        have hp2 : hp l2 ⟨#[108, 101, 110, 103, 116, 104, 58, 32]⟩ = true := h2
        clear h2
        go_wp2_with (first | (go_at_call 82; refine (cutPrefix_any _ _ _).mono ?_; rintro e w' ⟨rfl, rfl⟩) | (go_at_call 47; refine (must_yes _).mono ?_; rintro e w' ⟨rfl, rfl⟩))
        go_ret
        exact ⟨HB5.out, .inr ⟨setId o u, tp l2 sLen, pv, HF6.out, rfl, HP5.out, HR5.out⟩⟩
      · have HF6 : Hid (headF s = none) := by unfold Hid; rw [HF5.out, if_neg h2]
        have hp2 : hp l2 ⟨#[108, 101, 110, 103, 116, 104, 58, 32]⟩ = false := Bool.eq_false_iff.2 h2
        clear h2
        go_wp2_with (first | (go_at_call 82; refine (cutPrefix_any _ _ _).mono ?_; rintro e w' ⟨rfl, rfl⟩) | (go_at_call 47; first | (refine (must_yes _).mono ?_; rintro e w' ⟨rfl, rfl⟩) | (refine (must_no _).mono ?_; rintro e w' ⟨rfl, rfl⟩)))
        exact ⟨rfl, HB5.out, .inl ⟨HF6.out, rfl⟩⟩
  · have hp1 : hp l1 ⟨#[105, 100, 58, 32]⟩ = false := Bool.eq_false_iff.2 h1
    have HF4 : Hid (headF s = none) := by unfold Hid; rw [HF3.out]; unfold headT; rw [if_neg h1]
    clear h1 HF3
    go_wp2_with (first | (go_at_call 82; refine (cutPrefix_any _ _ _).mono ?_; rintro e w' ⟨rfl, rfl⟩) | (go_at_call 47; refine (must_no _).mono ?_; rintro e w' ⟨rfl, rfl⟩))
    exact ⟨rfl, HB3.out, .inl ⟨HF4.out, rfl⟩⟩

theorem head_any (s : ByteArray) (w0 w : World) (pb : Nat) (hL : Lib0 w0) (hb : BelowX pb w0.heap.size w0 w) (hpb : 8 ≤ pb) (hs : s.size ≤ 1073741824) (hP : PIs w pb zeroO (.slice none 0 0) (.slice none 0 0)) :
    Calls Tryz.prog 46 #[.pointer (some ⟨pb, 0, none⟩), .string s] w (PrH (headF s) w0 pb) := by
  by_cases h : (spl s sEnd).length = 3
  · obtain ⟨l0, l1, l2, h⟩ := three_of h
    by_cases h3 : (spl l0 sSpace).length = 3
    · obtain ⟨a, b, c, h3⟩ := three_of h3
      by_cases hc : c = sVer
      · exact head_go s l0 l1 l2 a b c w0 w pb hL hb hpb hs hP h h3 hc
      · exact head_ver s l0 l1 l2 a b c w0 w pb hL hb hpb hs h h3 hc
    · exact head_w3 s l0 l1 l2 w0 w pb hL hb hpb hs h h3
  · exact head_not3 s w0 w pb hL hb hpb hs h
end Go.Proofs.YtnlooggibopknaaGreatDoor
