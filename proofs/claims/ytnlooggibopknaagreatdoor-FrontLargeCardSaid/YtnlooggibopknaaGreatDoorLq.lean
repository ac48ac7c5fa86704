/- The reference's Parse of any bytes; the law FrontParses, walked. -/
import Derived.Test.YtnlooggibopknaaGreatDoorRt
import Derived.Test.YtnlooggibopknaaGreatDoorSm
import Derived.Test.YtnlooggibopknaaGreatDoorW41
namespace Go.Proofs.YtnlooggibopknaaGreatDoor
open Go.RowKit Go.Sort

set_option maxHeartbeats 4000000 in
set_option maxRecDepth 1000000 in
theorem parseR_nil (a : Option Addr) (c : Nat) (w : World) : Calls Tryz.prog 20 #[.slice a 0 c] w (PaR (parseF []) w) := by
  have HRR : Hid (parseF [] = (zeroO, 400)) := by
    have h1 : atP [] < 0 := by
      rcases Int.lt_or_le (atP []) 0 with h | h
      · exact h
      · have := (atP_room (b := []) (k := (atP []).toNat) (by omega)).1
        simp at this
    unfold Hid
    rw [parseF_none h1, if_neg (by decide)]
  have HE : Hid (endsI [] = -1) := ends_not fun j hj => by simp at hj
  have HC : Hid (∀ W, Calls Tryz.prog 51 #[.slice a 0 c] W fun e w' => e = .returned (.int .i64 (-1)) ∧ Below W.heap.size W w') := fun W => by
    have h := ends_nil a c W
    rw [HE.out] at h
    exact h
  go_enter Tryz.func20, Tryz.ntmps20
  go_upto_region 1 with fail
  obtain ⟨W, hW, hz0, hb⟩ := one_block w #[.int .u64 0, .int .i64 0, .string ⟨#[]⟩, .string ⟨#[]⟩, .string ⟨#[]⟩, .int .i64 0, .int .u64 0, .slice none 0 0, .slice none 0 0]
  rw [← hW]
  clear hW
  have hsz : w.heap.size < W.heap.size := lt_of_at hz0
  go_wp2_with fail
  refine (HC.out _).mono ?_
  rintro e W1 ⟨rfl, hb1⟩
  have hz0 : W1.heap[w.heap.size]? = some (.cells #[.int .u64 0, .int .i64 0, .string ⟨#[]⟩, .string ⟨#[]⟩, .string ⟨#[]⟩, .int .i64 0, .int .u64 0, .slice none 0 0, .slice none 0 0] 26 (0, 0)) := (hb1.block _ hsz).trans hz0
  have hb := hb.trans (hb1.mono hb.size)
  clear hb1 hsz
  have z0 : W1.cell? ⟨w.heap.size, 0, none⟩ = some (.int .u64 0) := cell_of_row _ _ 0 _ _ _ hz0
  have z1 : W1.cell? ⟨w.heap.size, 1, none⟩ = some (.int .i64 0) := cell_of_row _ _ 1 _ _ _ hz0
  have z2 : W1.cell? ⟨w.heap.size, 2, none⟩ = some (.string ⟨#[]⟩) := cell_of_row _ _ 2 _ _ _ hz0
  have z3 : W1.cell? ⟨w.heap.size, 3, none⟩ = some (.string ⟨#[]⟩) := cell_of_row _ _ 3 _ _ _ hz0
  have z4 : W1.cell? ⟨w.heap.size, 4, none⟩ = some (.string ⟨#[]⟩) := cell_of_row _ _ 4 _ _ _ hz0
  have z5 : W1.cell? ⟨w.heap.size, 5, none⟩ = some (.int .i64 0) := cell_of_row _ _ 5 _ _ _ hz0
  have z6 : W1.cell? ⟨w.heap.size, 6, none⟩ = some (.int .u64 0) := cell_of_row _ _ 6 _ _ _ hz0
  have z7 : W1.cell? ⟨w.heap.size, 7, none⟩ = some (.slice none 0 0) := cell_of_row _ _ 7 _ _ _ hz0
  have z8 : W1.cell? ⟨w.heap.size, 8, none⟩ = some (.slice none 0 0) := cell_of_row _ _ 8 _ _ _ hz0
  have zf : ∀ j, W1.frozen? ⟨w.heap.size, j, none⟩ = false := fun j => frozen_of_row W1 (w.heap.size) j _ _ hz0
  go_wp2
  exact tgt_ret (W := setOp W1 w.heap.size zeroO (.slice none 0 0) (.slice none 0 0)) Tryz.results20 rfl rfl (setOp_same hz0 rfl) (par_zero HRR.out (setOp_low hb (Nat.le_refl _) _ _ _))

/-- glacierref16.Parse. -/
theorem parseR_any (l : List UInt8) (bv : Value) (w : World) (hb : RowC w bv (bcells l)) (hl : l.length ≤ 1073741824) : Calls Tryz.prog 20 #[bv] w (PaR (parseF l) w) := by
  rcases hb.row with ⟨a, c, rfl, he⟩ | ⟨b, o, c, h0, rfl, hlt, hc⟩
  · have hn : l = [] := by have := congrArg List.length he; rw [bcells_len] at this; exact List.eq_nil_of_length_eq_zero this
    subst hn
    exact parseR_nil a c w
  · have hcap := hb.cap _ _ _ rfl
    rw [bcells_len] at hcap
    rw [bcells_len] at *
    exact parseR_long l b o c w hc hlt hcap hl
theorem parseF_ps (l : List UInt8) : (parseF l).1.ps.length ≤ 140737488355328 := by
  by_cases h : (parseF l).2 = 200
  · have := (sm_of_chk (parseF_200 h).1).ps
    omega
  · rw [(parseF_not h).1]
    exact Nat.zero_le _
theorem rowC_sliceI {w : World} {v : Value} {l : List Int} (h : RowC w v (icells l)) : ∃ a c, v = .slice a l.length c := by
  obtain ⟨a, c, rfl⟩ := h.row.form
  exact ⟨a, c, by simp [icells]⟩
theorem rowC_sliceB {w : World} {v : Value} {l : List UInt8} (h : RowC w v (bcells l)) : ∃ a c, v = .slice a l.length c := by
  obtain ⟨a, c, rfl⟩ := h.row.form
  exact ⟨a, c, by rw [bcells_len]⟩
theorem opBox2 {B : Nat} {w0 w4 : World} (hb : Below B w0 w4) (hB : B ≤ w4.heap.size) (r : O) (pv dv : Value) :
    ∃ W5, W5 = w4.alloc (.cells (pC r pv dv) 26) ∧ Below B w0 W5 ∧ Below w4.heap.size w4 W5 ∧ (∀ j u, (pC r pv dv)[j]? = some u → W5.cell? ⟨w4.heap.size, j, none⟩ = some u) ∧ w4.heap.size < W5.heap.size := by
  have h1 : (w4.alloc (.cells (pC r pv dv) 26)).heap[w4.heap.size]? = some (.cells (pC r pv dv) 26 (0, 0)) := heap_alloc_new w4 _
  have b1 : Below w4.heap.size w4 (w4.alloc (.cells (pC r pv dv) 26)) := (Below.refl _ _).alloc (Nat.le_refl _) _
  exact ⟨_, rfl, hb.trans (b1.mono hB), b1, fun j u hj => (cell_of_row _ _ _ _ _ _ h1).trans hj, lt_of_at h1⟩

set_option maxHeartbeats 8000000 in
set_option maxRecDepth 100000 in
theorem parses_law (ba : Option Addr) (bc : Nat) (l : List UInt8) (w : World) (hm : RowC w (.slice ba l.length bc) (bcells l)) (hmr : l.length ≤ 140737488355328) (hL : Lib0 w) :
    Calls Tryz.prog 4 #[.slice ba l.length bc] w fun e w' => e = .returned (.bool true) ∧ Below w.heap.size w w' := by
  have HK := Lib.hid (known_law w hL)
  have HL := Lib.hid hL
  have HM := Lib.hid hm
  clear hL hm
  by_cases hml : 262144 < l.length
  · have hmi : (262144 : Int) < (l.length : Int) := by omega
    go_enter Tryz.func4, Tryz.ntmps4
    go_wp2_with fail
    refine HK.out.mono ?_
    rintro e w1 ⟨rfl, hb1⟩
    have HB1 := Lib.hid hb1
    clear hb1
    go_wp2
    go_ret
    exact ⟨rfl, HB1.out⟩
  · have hmi : ¬ (262144 : Int) < (l.length : Int) := by omega
    have HPa : Hid (∀ W, Below w.heap.size w W → Calls Tryz.prog 19 #[.slice ba l.length bc] W (PaR (parseF l) W)) := fun W hb => parse_any l _ W (HM.out.below hb) (by omega) (HL.out.below hb)
    have HPb : Hid (∀ W, Below w.heap.size w W → Calls Tryz.prog 20 #[.slice ba l.length bc] W (PaR (parseF l) W)) := fun W hb => parseR_any l _ W (HM.out.below hb) (by omega)
    have HPS := Lib.hid (parseF_ps l)
    clear hml
    go_enter Tryz.func4, Tryz.ntmps4
    go_wp2_with fail
    refine HK.out.mono ?_
    rintro e w1 ⟨rfl, hb1⟩
    have HB1 := Lib.hid hb1
    clear hb1
    go_wp2_with fail
    refine (HPa.out _ HB1.out).mono ?_
    generalize parseF l = rs at *
    obtain ⟨r, s⟩ := rs
    rintro e w2 ⟨pv, dv, rfl, hpv, hdv, hb2⟩
    simp only at hpv hdv
    obtain ⟨a1, q1, rfl⟩ := rowC_sliceI hpv
    obtain ⟨a2, q2, rfl⟩ := rowC_sliceB hdv
    have HB2 := Lib.hid (HB1.out.trans (hb2.mono HB1.out.size))
    obtain ⟨W3, hW3, HB3, hb3, hk, hlt3⟩ := opBox2 HB2.out HB2.out.size r (.slice a1 r.ps.length q1) (.slice a2 r.da.length q2)
    have HR3 := Lib.hid (And.intro (hpv.row.below hb3) (hdv.row.below hb3))
    have HK3 := Lib.hid hk
    have HLT := Lib.hid hlt3
    have HB3 := Lib.hid HB3
    unfold pC at hW3
    clear hpv hdv hb2 hb3 hk hlt3
    go_upto_region 6 with fail
    rw [← hW3]
    clear hW3
    go_wp2_with fail
    refine (HPb.out _ HB3.out).mono ?_
    rintro e w4 ⟨pv, dv, rfl, hpv, hdv, hb4⟩
    simp only at hpv hdv
    obtain ⟨a3, q3, rfl⟩ := rowC_sliceI hpv
    obtain ⟨a4, q4, rfl⟩ := rowC_sliceB hdv
    have HB4 := Lib.hid (HB3.out.trans (hb4.mono HB3.out.size))
    obtain ⟨W5, hW5, HB5, hb5, hk, hlt5⟩ := opBox2 HB4.out HB4.out.size r (.slice a3 r.ps.length q3) (.slice a4 r.da.length q4)
    have hb35 := hb4.trans (hb5.mono hb4.size)
    have HR5 := Lib.hid (And.intro (hpv.row.below hb5) (hdv.row.below hb5))
    have HB5 := Lib.hid HB5
    have HS : Hid (Calls Tryz.prog 21 #[opV r (.slice a1 r.ps.length q1) (.slice a2 r.da.length q2), opV r (.slice a3 r.ps.length q3) (.slice a4 r.da.length q4)] W5 fun e w' => e = .returned (.bool true) ∧ Below W5.heap.size W5 w') :=
      same_yes r a1 a2 a3 a4 q1 q2 q3 q4 W5 HPS.out (HR3.out.1.below hb35) (HR3.out.2.below hb35) HR5.out.1 HR5.out.2
    have HH := Lib.hid fun (j : Nat) (u : Value) (hj : (pC r (.slice a1 r.ps.length q1) (.slice a2 r.da.length q2))[j]? = some u) => ((bcell hb35).1 w2.heap.size j HLT.out).trans (HK3.out j u hj)
    have HH2 := Lib.hid hk
    unfold pC at hW5
    clear hpv hdv hb4 hb5 hk hlt5 hb35
    go_upto_region 7 with fail
    rw [← hW5]
    clear hW5
    have k0 : W5.cell? ⟨w2.heap.size, 0, none⟩ = some (.int .u64 r.id) := HH.out 0 _ rfl
    have k1 : W5.cell? ⟨w2.heap.size, 1, none⟩ = some (.int .i64 r.kind) := HH.out 1 _ rfl
    have k2 : W5.cell? ⟨w2.heap.size, 2, none⟩ = some (.string r.bu) := HH.out 2 _ rfl
    have k3 : W5.cell? ⟨w2.heap.size, 3, none⟩ = some (.string r.ke) := HH.out 3 _ rfl
    have k4 : W5.cell? ⟨w2.heap.size, 4, none⟩ = some (.string r.af) := HH.out 4 _ rfl
    have k5 : W5.cell? ⟨w2.heap.size, 5, none⟩ = some (.int .i64 r.n) := HH.out 5 _ rfl
    have k6 : W5.cell? ⟨w2.heap.size, 6, none⟩ = some (.int .u64 r.up) := HH.out 6 _ rfl
    have k7 : W5.cell? ⟨w2.heap.size, 7, none⟩ = some (.slice a1 r.ps.length q1) := HH.out 7 _ rfl
    have k8 : W5.cell? ⟨w2.heap.size, 8, none⟩ = some (.slice a2 r.da.length q2) := HH.out 8 _ rfl
    have c0 : W5.cell? ⟨w4.heap.size, 0, none⟩ = some (.int .u64 r.id) := HH2.out 0 _ rfl
    have c1 : W5.cell? ⟨w4.heap.size, 1, none⟩ = some (.int .i64 r.kind) := HH2.out 1 _ rfl
    have c2 : W5.cell? ⟨w4.heap.size, 2, none⟩ = some (.string r.bu) := HH2.out 2 _ rfl
    have c3 : W5.cell? ⟨w4.heap.size, 3, none⟩ = some (.string r.ke) := HH2.out 3 _ rfl
    have c4 : W5.cell? ⟨w4.heap.size, 4, none⟩ = some (.string r.af) := HH2.out 4 _ rfl
    have c5 : W5.cell? ⟨w4.heap.size, 5, none⟩ = some (.int .i64 r.n) := HH2.out 5 _ rfl
    have c6 : W5.cell? ⟨w4.heap.size, 6, none⟩ = some (.int .u64 r.up) := HH2.out 6 _ rfl
    have c7 : W5.cell? ⟨w4.heap.size, 7, none⟩ = some (.slice a3 r.ps.length q3) := HH2.out 7 _ rfl
    have c8 : W5.cell? ⟨w4.heap.size, 8, none⟩ = some (.slice a4 r.da.length q4) := HH2.out 8 _ rfl
    go_wp2_with fail
    refine HS.out.mono ?_
    rintro e w6 ⟨rfl, hb6⟩
    have HB6 := Lib.hid (HB5.out.trans (hb6.mono HB5.out.size))
    clear hb6
    go_wp2
    go_ret
    exact ⟨rfl, HB6.out⟩
end Go.Proofs.YtnlooggibopknaaGreatDoor
