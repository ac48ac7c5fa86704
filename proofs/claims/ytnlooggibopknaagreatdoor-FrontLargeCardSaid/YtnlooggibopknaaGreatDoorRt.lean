/- The walk of the reference's Parse. -/
import Derived.Test.YtnlooggibopknaaGreatDoorRs
namespace Go.Proofs.YtnlooggibopknaaGreatDoor
open Go.RowKit Go.Sort

set_option maxHeartbeats 32000000 in
set_option maxRecDepth 1000000 in
theorem parseR_long (l : List UInt8) (bb bo c : Nat) (w : World) (hc : ∀ j u, (bcells l)[j]? = some u → w.cell? ⟨bb, bo + j, none⟩ = some u) (hlt : bb < w.heap.size) (hcap : l.length ≤ c) (hl : l.length ≤ 1073741824) :
    Calls Tryz.prog 20 #[.slice (some ⟨bb, bo, none⟩) l.length c] w (PaR (parseF l) w) := by
  have hci : (l.length : Int) ≤ (c : Int) := by omega
  have HCB : Hid (∀ W, Below w.heap.size w W → ∀ j u, (bcells l)[j]? = some u → W.cell? ⟨bb, bo + j, none⟩ = some u) := fun W hb j u hj => ((bcell hb).1 bb (bo + j) hlt).trans (hc j u hj)
  obtain ⟨L1, hL1⟩ : ∃ k, (l.take 65536).length = k := ⟨_, rfl⟩
  have HEn : Hid (∀ W, Below w.heap.size w W → Calls Tryz.prog 51 #[.slice (some ⟨bb, bo, none⟩) L1 c] W fun e w' => e = .returned (.int .i64 (endsI (l.take 65536))) ∧ Below W.heap.size W w') := fun W hb => by rw [← hL1]; exact ends_any bb bo c (l.take 65536) W (fun j u hj => HCB.out W hb j u (take_cell hj)) (by rw [List.length_take]; omega)
  have HL1 := Lib.hid hL1
  clear hc hlt hL1
  go_enter Tryz.func20, Tryz.ntmps20
  go_upto_if 14 with fail
  obtain ⟨W, hW, hz0, hb⟩ := one_block w #[.int .u64 0, .int .i64 0, .string ⟨#[]⟩, .string ⟨#[]⟩, .string ⟨#[]⟩, .int .i64 0, .int .u64 0, .slice none 0 0, .slice none 0 0]
  rw [← hW]
  clear hW
  have hsz : w.heap.size < W.heap.size := lt_of_at hz0
  go_cut [4] (fun s4 wx => s4 = .slice (some ⟨bb, bo, none⟩) L1 c ∧ wx = W)
  case first =>
    by_cases h65 : 65536 < l.length
    · have h65i : (65536 : Int) < (l.length : Int) := by omega
      have hc65 : (65536 : Int) ≤ (c : Int) := by omega
      have hc65n : 65536 ≤ c := by omega
      have HE : Hid (L1 = 65536) := by unfold Hid; rw [← HL1.out, List.length_take]; omega
      clear h65
      go_wp2_with fail
      go_meet
      exact ⟨by rw [HE.out], rfl⟩
    · have h65i : ¬ (65536 : Int) < (l.length : Int) := by omega
      have HE : Hid (L1 = l.length) := by unfold Hid; rw [← HL1.out, List.length_take]; omega
      clear h65
      go_wp2_with fail
      go_meet
      exact ⟨by rw [HE.out], rfl⟩
  case rest =>
    obtain ⟨rfl, rfl⟩ := hcut
    have HE0 := Lib.hid (HEn.out _ hb)
    go_wp2_with fail
    refine HE0.out.mono ?_
    rintro e W1 ⟨he, hb1⟩
    have he := Lib.hid he
    have hz0 : W1.heap[w.heap.size]? = some (.cells #[.int .u64 0, .int .i64 0, .string ⟨#[]⟩, .string ⟨#[]⟩, .string ⟨#[]⟩, .int .i64 0, .int .u64 0, .slice none 0 0, .slice none 0 0] 26 (0, 0)) := (hb1.block _ hsz).trans hz0
    have hb := hb.trans (hb1.mono hb.size)
    have hsz : w.heap.size < W1.heap.size := lt_of_at hz0
    clear hb1 HE0 HEn
    by_cases ha : atP l < 0
    · have he2 := he.out
      rw [ends_neg ha] at he2
      subst he2
      by_cases h65 : 65536 < l.length
      · have h65i : (65536 : Int) < (l.length : Int) := by omega
        have HRR : Hid (parseF l = (zeroO, 413)) := by unfold Hid; rw [parseF_none ha, if_pos h65]
        clear ha h65 he
        have z0 : W1.cell? ⟨w.heap.size, 0, none⟩ = some (.int .u64 0) := cell_of_row _ _ 0 _ _ _ hz0
        have z1 : W1.cell? ⟨w.heap.size, 1, none⟩ = some (.int .i64 0) := cell_of_row _ _ 1 _ _ _ hz0
        have z2 : W1.cell? ⟨w.heap.size, 2, none⟩ = some (.string ⟨#[]⟩) := cell_of_row _ _ 2 _ _ _ hz0
        have z3 : W1.cell? ⟨w.heap.size, 3, none⟩ = some (.string ⟨#[]⟩) := cell_of_row _ _ 3 _ _ _ hz0
        have z4 : W1.cell? ⟨w.heap.size, 4, none⟩ = some (.string ⟨#[]⟩) := cell_of_row _ _ 4 _ _ _ hz0
        have z5 : W1.cell? ⟨w.heap.size, 5, none⟩ = some (.int .i64 0) := cell_of_row _ _ 5 _ _ _ hz0
        have z6 : W1.cell? ⟨w.heap.size, 6, none⟩ = some (.int .u64 0) := cell_of_row _ _ 6 _ _ _ hz0
        have z7 : W1.cell? ⟨w.heap.size, 7, none⟩ = some (.slice none 0 0) := cell_of_row _ _ 7 _ _ _ hz0
        have z8 : W1.cell? ⟨w.heap.size, 8, none⟩ = some (.slice none 0 0) := cell_of_row _ _ 8 _ _ _ hz0
        have zf : ∀ j, W1.frozen? ⟨w.heap.size, j, none⟩ = false := fun j => frozen_of_row W1 (w.heap.size) j _ _ hz0
        go_wp2
        exact tgt_ret (W := setOp W1 w.heap.size zeroO (.slice none 0 0) (.slice none 0 0)) Tryz.results20 rfl rfl (setOp_same hz0 rfl) (par_zero HRR.out (setOp_low hb (Nat.le_refl _) _ _ _))
      · have h65i : ¬ (65536 : Int) < (l.length : Int) := by omega
        have HRR : Hid (parseF l = (zeroO, 400)) := by unfold Hid; rw [parseF_none ha, if_neg h65]
        clear ha h65 he
        have z0 : W1.cell? ⟨w.heap.size, 0, none⟩ = some (.int .u64 0) := cell_of_row _ _ 0 _ _ _ hz0
        have z1 : W1.cell? ⟨w.heap.size, 1, none⟩ = some (.int .i64 0) := cell_of_row _ _ 1 _ _ _ hz0
        have z2 : W1.cell? ⟨w.heap.size, 2, none⟩ = some (.string ⟨#[]⟩) := cell_of_row _ _ 2 _ _ _ hz0
        have z3 : W1.cell? ⟨w.heap.size, 3, none⟩ = some (.string ⟨#[]⟩) := cell_of_row _ _ 3 _ _ _ hz0
        have z4 : W1.cell? ⟨w.heap.size, 4, none⟩ = some (.string ⟨#[]⟩) := cell_of_row _ _ 4 _ _ _ hz0
        have z5 : W1.cell? ⟨w.heap.size, 5, none⟩ = some (.int .i64 0) := cell_of_row _ _ 5 _ _ _ hz0
        have z6 : W1.cell? ⟨w.heap.size, 6, none⟩ = some (.int .u64 0) := cell_of_row _ _ 6 _ _ _ hz0
        have z7 : W1.cell? ⟨w.heap.size, 7, none⟩ = some (.slice none 0 0) := cell_of_row _ _ 7 _ _ _ hz0
        have z8 : W1.cell? ⟨w.heap.size, 8, none⟩ = some (.slice none 0 0) := cell_of_row _ _ 8 _ _ _ hz0
        have zf : ∀ j, W1.frozen? ⟨w.heap.size, j, none⟩ = false := fun j => frozen_of_row W1 (w.heap.size) j _ _ hz0
        go_wp2
        exact tgt_ret (W := setOp W1 w.heap.size zeroO (.slice none 0 0) (.slice none 0 0)) Tryz.results20 rfl rfl (setOp_same hz0 rfl) (par_zero HRR.out (setOp_low hb (Nat.le_refl _) _ _ _))
    · obtain ⟨k, hk⟩ : ∃ k : Nat, atP l = k := ⟨(atP l).toNat, by omega⟩
      obtain ⟨hnl, hn6⟩ := atP_room hk
      have he2 := he.out
      rw [ends_pos hk] at he2
      obtain ⟨n, hn⟩ : ∃ n, k + 4 = n := ⟨_, rfl⟩
      have HT0 : Hid (∀ r len b, (∀ o l', OpeG (mkB (l.take n)) o l' → b = true ∧ r = { o with da := [] } ∧ len = l') → ParN l n r len b) := fun r len b h => ⟨k, hn, hk, by rw [hn]; exact h⟩
      rw [hn] at he2 hnl hn6
      subst he2
      clear ha hk hn he
      have hnc : (n : Int) ≤ (c : Int) := by omega
      have hnc2 : n ≤ c := by omega
      have hn0 : ¬ (n : Int) < 0 := by omega
      have hn1 : (0 : Int) ≤ (n : Int) := by omega
      have hnli : (n : Int) ≤ (l.length : Int) := by omega
      have hzl : (mkB (l.take n)).size = n := by show (List.toArray _).size = n; rw [List.size_toArray, List.length_take]; omega
      have HOp : Hid (∀ W, Calls Tryz.prog 52 #[.string (mkB (l.take n))] W (OpeR (mkB (l.take n)) W)) := fun W => opened_any _ W (by rw [hzl]; exact hn6)
      have HZL := Lib.hid hzl
      clear hzl
      have hcv := conv_take (c := c) (HCB.out W1 hb) hnl
      go_wp2_with fail
      refine (HOp.out _).mono ?_
      rintro e W2 ⟨r, len, pv, b, rfl, hrow, hlen, hda, hln, hb1, htell⟩
      rw [HZL.out] at hlen
      have HK := Lib.hid (HT0.out r len b htell)
      have HDA := Lib.hid hda
      have HLN := Lib.hid hln
      have hsz0 := hsz
      clear hcv htell hda hln HOp HT0
      have hz0 : W2.heap[w.heap.size]? = some (.cells #[.int .u64 0, .int .i64 0, .string ⟨#[]⟩, .string ⟨#[]⟩, .string ⟨#[]⟩, .int .i64 0, .int .u64 0, .slice none 0 0, .slice none 0 0] 26 (0, 0)) := (hb1.block _ hsz).trans hz0
      have hb := hb.trans (hb1.mono hb.size)
      have hsz : w.heap.size < W2.heap.size := lt_of_at hz0
      obtain ⟨va, vc, hve⟩ := hrow.c.row.form
      rw [show (icells r.ps).length = r.ps.length by simp [icells]] at hve
      subst hve
      have HR := Lib.hid (hrow.x (pb := w.heap.size) hsz0)
      clear hb1 hrow hsz0
      go_upto_region 10 with fail
      have hs2 := hsz
      obtain ⟨W3, hW3, hk1, hz3, hb3⟩ := nb_block w W2 #[.int .u64 (r.id : Int), .int .i64 r.kind, .string r.bu, .string r.ke, .string r.af, .int .i64 r.n, .int .u64 (r.up : Int), .slice va r.ps.length vc, .slice none 0 0] hz0 hb
      have hbq : Below W2.heap.size W2 W3 := by rw [hW3]; exact (Below.refl _ _).alloc (Nat.le_refl _) _
      rw [← hW3]
      clear hW3 hz0 hb hsz
      have hz0 := hz3
      have hb := hb3
      have hsz : w.heap.size < W3.heap.size := lt_of_at hz0
      have hsq : W2.heap.size < W3.heap.size := lt_of_at hk1
      clear hz3 hb3
      have hcv : ∀ d os, (convert 24 9 (.slice (some ⟨bb, bo, none⟩) n c)).run Tryz.prog (grow (redrawn W3 d) os) = .ok (.string (mkB (l.take n))) (grow (redrawn W3 d) os) := fun d os => conv_take (HCB.out _ (hb.trans ((below_regrown W3 d os).mono hb.size))) hnl
      have k0 := cell_regrown (cell_of_row W3 W2.heap.size 0 _ _ _ hk1)
      have k1 := cell_regrown (cell_of_row W3 W2.heap.size 1 _ _ _ hk1)
      have k2 := cell_regrown (cell_of_row W3 W2.heap.size 2 _ _ _ hk1)
      have k3 := cell_regrown (cell_of_row W3 W2.heap.size 3 _ _ _ hk1)
      have k4 := cell_regrown (cell_of_row W3 W2.heap.size 4 _ _ _ hk1)
      have k5 := cell_regrown (cell_of_row W3 W2.heap.size 5 _ _ _ hk1)
      have k6 := cell_regrown (cell_of_row W3 W2.heap.size 6 _ _ _ hk1)
      have k7 := cell_regrown (cell_of_row W3 W2.heap.size 7 _ _ _ hk1)
      have k8 := cell_regrown (cell_of_row W3 W2.heap.size 8 _ _ _ hk1)
      have HH : Hid (b = true → ∀ d os, Calls Tryz.prog 37 #[.agg #[.int .u64 (r.id : Int), .int .i64 r.kind, .string r.bu, .string r.ke, .string r.af, .int .i64 r.n, .int .u64 (r.up : Int), .slice va r.ps.length vc, .slice none 0 0], .string len] (grow (redrawn W3 d) os) fun e w'' => e = .returned (.string (headB r len)) ∧ ∃ p : Regrown, w'' = grow (redrawn W3 p.d) p.os) := fun hbt d os => Calls.regrown_of (headR_any r _ _ len _ ((HR.out.c.row.below hbq).below (below_regrown W3 d os)) (HLN.out hbt) (by omega))
      cases b with
      | false =>
        have HRR : Hid (parseF l = (zeroO, 400)) := parN_1 HK.out
        clear HH
        clear hcv k0 k1 k2 k3 k4 k5 k6 k7 k8
        go_quiet (fail)
        have hb1 : Below W3.heap.size W3 (W3.drewN nq) := below_drewN (Below.refl _ _) _
        generalize W3.drewN nq = W4 at *
        have hz0 : W4.heap[w.heap.size]? = some (.cells #[.int .u64 0, .int .i64 0, .string ⟨#[]⟩, .string ⟨#[]⟩, .string ⟨#[]⟩, .int .i64 0, .int .u64 0, .slice none 0 0, .slice none 0 0] 26 (0, 0)) := (hb1.block _ hsz).trans hz0
        have hb := hb.trans (hb1.mono hb.size)
        have hsz : w.heap.size < W4.heap.size := lt_of_at hz0
        have z0 : W4.cell? ⟨w.heap.size, 0, none⟩ = some (.int .u64 0) := cell_of_row _ _ 0 _ _ _ hz0
        have z1 : W4.cell? ⟨w.heap.size, 1, none⟩ = some (.int .i64 0) := cell_of_row _ _ 1 _ _ _ hz0
        have z2 : W4.cell? ⟨w.heap.size, 2, none⟩ = some (.string ⟨#[]⟩) := cell_of_row _ _ 2 _ _ _ hz0
        have z3 : W4.cell? ⟨w.heap.size, 3, none⟩ = some (.string ⟨#[]⟩) := cell_of_row _ _ 3 _ _ _ hz0
        have z4 : W4.cell? ⟨w.heap.size, 4, none⟩ = some (.string ⟨#[]⟩) := cell_of_row _ _ 4 _ _ _ hz0
        have z5 : W4.cell? ⟨w.heap.size, 5, none⟩ = some (.int .i64 0) := cell_of_row _ _ 5 _ _ _ hz0
        have z6 : W4.cell? ⟨w.heap.size, 6, none⟩ = some (.int .u64 0) := cell_of_row _ _ 6 _ _ _ hz0
        have z7 : W4.cell? ⟨w.heap.size, 7, none⟩ = some (.slice none 0 0) := cell_of_row _ _ 7 _ _ _ hz0
        have z8 : W4.cell? ⟨w.heap.size, 8, none⟩ = some (.slice none 0 0) := cell_of_row _ _ 8 _ _ _ hz0
        have zf : ∀ j, W4.frozen? ⟨w.heap.size, j, none⟩ = false := fun j => frozen_of_row W4 (w.heap.size) j _ _ hz0
        go_wp2
        exact tgt_ret (W := setOp W4 w.heap.size zeroO (.slice none 0 0) (.slice none 0 0)) Tryz.results20 rfl rfl (setOp_same hz0 rfl) (par_zero HRR.out (setOp_low hb (Nat.le_refl _) _ _ _))
      | true =>
        have HH := Lib.hid (HH.out rfl)
        have HLn := Lib.hid (HLN.out rfl)
        clear HLN
        by_cases heq : headB r len = mkB (l.take n)
        · have hq := str_same heq
          have HEQ := Lib.hid heq
          clear heq
          refine wp_region_quiet_below (by kernel_rfl) (by kernel_rfl) ?_
          repeat (go_big_quiet_step ((go_at_call 37; exact HH.out _ _)))
          refine wpQuiet_nil ?_
          intro W4 hw'
          obtain ⟨⟨dq, osq⟩, hw''⟩ := hw'
          have hb1 : Below W3.heap.size W3 W4 := hw'' ▸ below_regrown _ _ _
          clear hw'' k0 k1 k2 k3 k4 k5 k6 k7 k8
          clear hcv HH hq
          have hz0 : W4.heap[w.heap.size]? = some (.cells #[.int .u64 0, .int .i64 0, .string ⟨#[]⟩, .string ⟨#[]⟩, .string ⟨#[]⟩, .int .i64 0, .int .u64 0, .slice none 0 0, .slice none 0 0] 26 (0, 0)) := (hb1.block _ hsz).trans hz0
          have hb := hb.trans (hb1.mono hb.size)
          have hsz : w.heap.size < W4.heap.size := lt_of_at hz0
          have hk1 : W4.heap[W2.heap.size]? = some (.cells #[.int .u64 (r.id : Int), .int .i64 r.kind, .string r.bu, .string r.ke, .string r.af, .int .i64 r.n, .int .u64 (r.up : Int), .slice va r.ps.length vc, .slice none 0 0] 26 (0, 0)) := (hb1.block _ hsq).trans hk1
          have hbq := hbq.trans (hb1.mono hbq.size)
          have hsq : W2.heap.size < W4.heap.size := lt_of_at hk1
          clear hb1
          have HD : Hid (∀ W, Calls Tryz.prog 53 #[.string len] W fun e w' => DecR len e ∧ Below W.heap.size W w') := fun W => decimalR_any len W (by omega)
          go_wp2_with fail
          refine (HD.out _).mono ?_
          rintro e W5 ⟨⟨m, g, rfl, hd⟩, hb1⟩
          have hz0 : W5.heap[w.heap.size]? = some (.cells #[.int .u64 0, .int .i64 0, .string ⟨#[]⟩, .string ⟨#[]⟩, .string ⟨#[]⟩, .int .i64 0, .int .u64 0, .slice none 0 0, .slice none 0 0] 26 (0, 0)) := (hb1.block _ hsz).trans hz0
          have hb := hb.trans (hb1.mono hb.size)
          have hsz : w.heap.size < W5.heap.size := lt_of_at hz0
          have hk1 : W5.heap[W2.heap.size]? = some (.cells #[.int .u64 (r.id : Int), .int .i64 r.kind, .string r.bu, .string r.ke, .string r.af, .int .i64 r.n, .int .u64 (r.up : Int), .slice va r.ps.length vc, .slice none 0 0] 26 (0, 0)) := (hb1.block _ hsq).trans hk1
          have hbq := hbq.trans (hb1.mono hbq.size)
          have hsq : W2.heap.size < W5.heap.size := lt_of_at hk1
          clear hb1 HD
          have HDD := Lib.hid hd
          clear hd
          have HC : Hid (∀ W d dv, Below W2.heap.size W2 W → RowIn W dv (bcells d) → Calls Tryz.prog 22 #[opV r (.slice va r.ps.length vc) dv] W (ChkR (withDa r d) W)) := fun W d dv hbW hdv => rcheck_any (withDa r d) _ dv W (HR.out.c.row.below hbW) hdv (by show r.bu.size ≤ _; have := HLn.out.bu; omega)
          cases ht : takesD len with
          | false =>
            have HRR : Hid (parseF l = (zeroO, 400)) := parN_3 HK.out ht
            clear ht HC
            have z0 : W5.cell? ⟨w.heap.size, 0, none⟩ = some (.int .u64 0) := cell_of_row _ _ 0 _ _ _ hz0
            have z1 : W5.cell? ⟨w.heap.size, 1, none⟩ = some (.int .i64 0) := cell_of_row _ _ 1 _ _ _ hz0
            have z2 : W5.cell? ⟨w.heap.size, 2, none⟩ = some (.string ⟨#[]⟩) := cell_of_row _ _ 2 _ _ _ hz0
            have z3 : W5.cell? ⟨w.heap.size, 3, none⟩ = some (.string ⟨#[]⟩) := cell_of_row _ _ 3 _ _ _ hz0
            have z4 : W5.cell? ⟨w.heap.size, 4, none⟩ = some (.string ⟨#[]⟩) := cell_of_row _ _ 4 _ _ _ hz0
            have z5 : W5.cell? ⟨w.heap.size, 5, none⟩ = some (.int .i64 0) := cell_of_row _ _ 5 _ _ _ hz0
            have z6 : W5.cell? ⟨w.heap.size, 6, none⟩ = some (.int .u64 0) := cell_of_row _ _ 6 _ _ _ hz0
            have z7 : W5.cell? ⟨w.heap.size, 7, none⟩ = some (.slice none 0 0) := cell_of_row _ _ 7 _ _ _ hz0
            have z8 : W5.cell? ⟨w.heap.size, 8, none⟩ = some (.slice none 0 0) := cell_of_row _ _ 8 _ _ _ hz0
            have zf : ∀ j, W5.frozen? ⟨w.heap.size, j, none⟩ = false := fun j => frozen_of_row W5 (w.heap.size) j _ _ hz0
            go_wp2
            exact tgt_ret (W := setOp W5 w.heap.size zeroO (.slice none 0 0) (.slice none 0 0)) Tryz.results20 rfl rfl (setOp_same hz0 rfl) (par_zero HRR.out (setOp_low hb (Nat.le_refl _) _ _ _))
          | true =>
            obtain ⟨hg, hm⟩ := HDD.out ht
            have HT := Lib.hid ht
            clear HDD ht
            by_cases hv : 16777216 < valD (bl len)
            · have HV := Lib.hid hv
              have hgm : g = true ∨ (g = false ∧ (16777216 : Int) < m) := by
                by_cases h40 : 1099511627776 < valD (bl len)
                · exact .inl (by rw [hg, decide_eq_true h40])
                · refine .inr ⟨by rw [hg, decide_eq_false h40], ?_⟩
                  have := hm (by omega)
                  omega
              have HCk : Hid (Calls Tryz.prog 22 #[opV r (.slice va r.ps.length vc) (.slice none 0 0)] W5 (ChkR r W5)) := by
                have h := HC.out W5 [] (.slice none 0 0) hbq (RowIn.nil _ _ _)
                have e : withDa r [] = r := by unfold withDa; rw [← HDA.out]
                rw [e] at h
                exact h
              clear hg hm hv HC
              have k0 : W5.cell? ⟨W2.heap.size, 0, none⟩ = some (.int .u64 (r.id : Int)) := cell_of_row _ _ 0 _ _ _ hk1
              have k1 : W5.cell? ⟨W2.heap.size, 1, none⟩ = some (.int .i64 r.kind) := cell_of_row _ _ 1 _ _ _ hk1
              have k2 : W5.cell? ⟨W2.heap.size, 2, none⟩ = some (.string r.bu) := cell_of_row _ _ 2 _ _ _ hk1
              have k3 : W5.cell? ⟨W2.heap.size, 3, none⟩ = some (.string r.ke) := cell_of_row _ _ 3 _ _ _ hk1
              have k4 : W5.cell? ⟨W2.heap.size, 4, none⟩ = some (.string r.af) := cell_of_row _ _ 4 _ _ _ hk1
              have k5 : W5.cell? ⟨W2.heap.size, 5, none⟩ = some (.int .i64 r.n) := cell_of_row _ _ 5 _ _ _ hk1
              have k6 : W5.cell? ⟨W2.heap.size, 6, none⟩ = some (.int .u64 (r.up : Int)) := cell_of_row _ _ 6 _ _ _ hk1
              have k7 : W5.cell? ⟨W2.heap.size, 7, none⟩ = some (.slice va r.ps.length vc) := cell_of_row _ _ 7 _ _ _ hk1
              have k8 : W5.cell? ⟨W2.heap.size, 8, none⟩ = some (.slice none 0 0) := cell_of_row _ _ 8 _ _ _ hk1
              have kf : ∀ j, W5.frozen? ⟨W2.heap.size, j, none⟩ = false := fun j => frozen_of_row W5 (W2.heap.size) j _ _ hk1
              by_cases hkk : r.kind = 3 ∨ r.kind = 8
              · have HKK := Lib.hid hkk
                have hkq : ((r.kind == 3) = true) ∨ ((r.kind == 3) = false ∧ (r.kind == 8) = true) := by
                  by_cases h3 : r.kind = 3
                  · exact .inl (beq_iff_eq.2 h3)
                  · exact .inr ⟨beq_eq_false_iff_ne.2 h3, beq_iff_eq.2 (hkk.resolve_left h3)⟩
                clear hkk
                have hgm2 := Lib.hid hgm
                have hkq2 := Lib.hid hkq
                clear hgm hkq
                cases hc : chkB r with
                | true =>
                  have HRR : Hid (parseF l = (zeroO, 413)) := parN_413 HK.out HEQ.out HDA.out HLn.out HT.out HV.out HKK.out hc
                  have HCk2 : Hid (Calls Tryz.prog 22 #[opV r (.slice va r.ps.length vc) (.slice none 0 0)] W5 fun e w' => e = .returned (.int .i64 0) ∧ Below W5.heap.size W5 w') := HCk.out.mono fun _ _ ⟨h1, h2⟩ => ⟨by rw [h1, hc]; rfl, h2⟩
                  clear hc HCk
                  rcases hgm2.out with rfl | ⟨rfl, hmi⟩ <;> rcases hkq2.out with q3 | ⟨q3, q8⟩
                  all_goals
                    clear hgm2 hkq2
                    go_wp2_with fail
                    refine HCk2.out.mono ?_
                    rintro e W6 ⟨rfl, hb1⟩
                    have hz0 : W6.heap[w.heap.size]? = some (.cells #[.int .u64 0, .int .i64 0, .string ⟨#[]⟩, .string ⟨#[]⟩, .string ⟨#[]⟩, .int .i64 0, .int .u64 0, .slice none 0 0, .slice none 0 0] 26 (0, 0)) := (hb1.block _ hsz).trans hz0
                    have hb := hb.trans (hb1.mono hb.size)
                    have hsz : w.heap.size < W6.heap.size := lt_of_at hz0
                    clear hb1 HCk2
                    have z0 : W6.cell? ⟨w.heap.size, 0, none⟩ = some (.int .u64 0) := cell_of_row _ _ 0 _ _ _ hz0
                    have z1 : W6.cell? ⟨w.heap.size, 1, none⟩ = some (.int .i64 0) := cell_of_row _ _ 1 _ _ _ hz0
                    have z2 : W6.cell? ⟨w.heap.size, 2, none⟩ = some (.string ⟨#[]⟩) := cell_of_row _ _ 2 _ _ _ hz0
                    have z3 : W6.cell? ⟨w.heap.size, 3, none⟩ = some (.string ⟨#[]⟩) := cell_of_row _ _ 3 _ _ _ hz0
                    have z4 : W6.cell? ⟨w.heap.size, 4, none⟩ = some (.string ⟨#[]⟩) := cell_of_row _ _ 4 _ _ _ hz0
                    have z5 : W6.cell? ⟨w.heap.size, 5, none⟩ = some (.int .i64 0) := cell_of_row _ _ 5 _ _ _ hz0
                    have z6 : W6.cell? ⟨w.heap.size, 6, none⟩ = some (.int .u64 0) := cell_of_row _ _ 6 _ _ _ hz0
                    have z7 : W6.cell? ⟨w.heap.size, 7, none⟩ = some (.slice none 0 0) := cell_of_row _ _ 7 _ _ _ hz0
                    have z8 : W6.cell? ⟨w.heap.size, 8, none⟩ = some (.slice none 0 0) := cell_of_row _ _ 8 _ _ _ hz0
                    have zf : ∀ j, W6.frozen? ⟨w.heap.size, j, none⟩ = false := fun j => frozen_of_row W6 (w.heap.size) j _ _ hz0
                    go_wp2
                    exact tgt_ret (W := setOp W6 w.heap.size zeroO (.slice none 0 0) (.slice none 0 0)) Tryz.results20 rfl rfl (setOp_same hz0 rfl) (par_zero HRR.out (setOp_low hb (Nat.le_refl _) _ _ _))
                | false =>
                  have HRR : Hid (parseF l = (zeroO, 400)) := parN_4 HK.out HV.out (by rw [hc]; simp)
                  have HCk2 : Hid (Calls Tryz.prog 22 #[opV r (.slice va r.ps.length vc) (.slice none 0 0)] W5 fun e w' => e = .returned (.int .i64 1) ∧ Below W5.heap.size W5 w') := HCk.out.mono fun _ _ ⟨h1, h2⟩ => ⟨by rw [h1, hc]; rfl, h2⟩
                  clear hc HCk
                  rcases hgm2.out with rfl | ⟨rfl, hmi⟩ <;> rcases hkq2.out with q3 | ⟨q3, q8⟩
                  all_goals
                    clear hgm2 hkq2
                    go_wp2_with fail
                    refine HCk2.out.mono ?_
                    rintro e W6 ⟨rfl, hb1⟩
                    have hz0 : W6.heap[w.heap.size]? = some (.cells #[.int .u64 0, .int .i64 0, .string ⟨#[]⟩, .string ⟨#[]⟩, .string ⟨#[]⟩, .int .i64 0, .int .u64 0, .slice none 0 0, .slice none 0 0] 26 (0, 0)) := (hb1.block _ hsz).trans hz0
                    have hb := hb.trans (hb1.mono hb.size)
                    have hsz : w.heap.size < W6.heap.size := lt_of_at hz0
                    clear hb1 HCk2
                    have z0 : W6.cell? ⟨w.heap.size, 0, none⟩ = some (.int .u64 0) := cell_of_row _ _ 0 _ _ _ hz0
                    have z1 : W6.cell? ⟨w.heap.size, 1, none⟩ = some (.int .i64 0) := cell_of_row _ _ 1 _ _ _ hz0
                    have z2 : W6.cell? ⟨w.heap.size, 2, none⟩ = some (.string ⟨#[]⟩) := cell_of_row _ _ 2 _ _ _ hz0
                    have z3 : W6.cell? ⟨w.heap.size, 3, none⟩ = some (.string ⟨#[]⟩) := cell_of_row _ _ 3 _ _ _ hz0
                    have z4 : W6.cell? ⟨w.heap.size, 4, none⟩ = some (.string ⟨#[]⟩) := cell_of_row _ _ 4 _ _ _ hz0
                    have z5 : W6.cell? ⟨w.heap.size, 5, none⟩ = some (.int .i64 0) := cell_of_row _ _ 5 _ _ _ hz0
                    have z6 : W6.cell? ⟨w.heap.size, 6, none⟩ = some (.int .u64 0) := cell_of_row _ _ 6 _ _ _ hz0
                    have z7 : W6.cell? ⟨w.heap.size, 7, none⟩ = some (.slice none 0 0) := cell_of_row _ _ 7 _ _ _ hz0
                    have z8 : W6.cell? ⟨w.heap.size, 8, none⟩ = some (.slice none 0 0) := cell_of_row _ _ 8 _ _ _ hz0
                    have zf : ∀ j, W6.frozen? ⟨w.heap.size, j, none⟩ = false := fun j => frozen_of_row W6 (w.heap.size) j _ _ hz0
                    go_wp2
                    exact tgt_ret (W := setOp W6 w.heap.size zeroO (.slice none 0 0) (.slice none 0 0)) Tryz.results20 rfl rfl (setOp_same hz0 rfl) (par_zero HRR.out (setOp_low hb (Nat.le_refl _) _ _ _))
              · have HRR : Hid (parseF l = (zeroO, 400)) := parN_4 HK.out HV.out (fun h => hkk h.1)
                have q3 : (r.kind == 3) = false := beq_eq_false_iff_ne.2 fun h => hkk (.inl h)
                have q8 : (r.kind == 8) = false := beq_eq_false_iff_ne.2 fun h => hkk (.inr h)
                have hgm2 := Lib.hid hgm
                clear hkk HCk hgm
                rcases hgm2.out with rfl | ⟨rfl, hmi⟩
                all_goals
                  clear hgm2
                  have z0 : W5.cell? ⟨w.heap.size, 0, none⟩ = some (.int .u64 0) := cell_of_row _ _ 0 _ _ _ hz0
                  have z1 : W5.cell? ⟨w.heap.size, 1, none⟩ = some (.int .i64 0) := cell_of_row _ _ 1 _ _ _ hz0
                  have z2 : W5.cell? ⟨w.heap.size, 2, none⟩ = some (.string ⟨#[]⟩) := cell_of_row _ _ 2 _ _ _ hz0
                  have z3 : W5.cell? ⟨w.heap.size, 3, none⟩ = some (.string ⟨#[]⟩) := cell_of_row _ _ 3 _ _ _ hz0
                  have z4 : W5.cell? ⟨w.heap.size, 4, none⟩ = some (.string ⟨#[]⟩) := cell_of_row _ _ 4 _ _ _ hz0
                  have z5 : W5.cell? ⟨w.heap.size, 5, none⟩ = some (.int .i64 0) := cell_of_row _ _ 5 _ _ _ hz0
                  have z6 : W5.cell? ⟨w.heap.size, 6, none⟩ = some (.int .u64 0) := cell_of_row _ _ 6 _ _ _ hz0
                  have z7 : W5.cell? ⟨w.heap.size, 7, none⟩ = some (.slice none 0 0) := cell_of_row _ _ 7 _ _ _ hz0
                  have z8 : W5.cell? ⟨w.heap.size, 8, none⟩ = some (.slice none 0 0) := cell_of_row _ _ 8 _ _ _ hz0
                  have zf : ∀ j, W5.frozen? ⟨w.heap.size, j, none⟩ = false := fun j => frozen_of_row W5 (w.heap.size) j _ _ hz0
                  go_wp2
                  exact tgt_ret (W := setOp W5 w.heap.size zeroO (.slice none 0 0) (.slice none 0 0)) Tryz.results20 rfl rfl (setOp_same hz0 rfl) (par_zero HRR.out (setOp_low hb (Nat.le_refl _) _ _ _))
            · have hgf : g = false := by rw [hg, decide_eq_false (by omega)]
              have hmv := hm (by omega)
              subst hgf hmv
              clear hg hm
              have hv1 : valD (bl len) ≤ 16777216 := by omega
              have HV := Lib.hid hv1
              have HK5 := Lib.hid (parN_5 HK.out hv1)
              have HK6 := Lib.hid (parN_6 HK.out hv1)
              have HK2 := Lib.hid (parN_200 HK.out HEQ.out HLn.out HT.out)
              have HVD := Lib.hid (show valD (bl len) = valD (bl len) from rfl)
              clear hv HK HEQ
              generalize valD (bl len) = v at *
              have hmi : ¬ (16777216 : Int) < (v : Int) := by omega
              by_cases hlv : n + v = l.length
              · have q1 : ((v : Int) == (l.length : Int) - (n : Int)) = true := beq_iff_eq.2 (by omega)
                have q2 : ((v : Int) != (l.length : Int) - (n : Int)) = false := by rw [bne, q1]; rfl
                have HLV := Lib.hid hlv
                have HK2 := Lib.hid (HK2.out hlv)
                clear hlv HK5
                obtain ⟨o2, ho2, hsl⟩ := slice_fromN bb bo l.length c n hnl hcap
                have hdl : (l.drop n).length = l.length - n := List.length_drop
                have HDL := Lib.hid hdl
                have HO5 : Hid ((W5.alloc (.cells #[] 5)).ownsRow W5.heap.size 5 1 (.slice (some ⟨W5.heap.size, 0, none⟩) 0 0) 0 []) := ⟨rfl, .inr ⟨W5.heap.size, 0, #[], rfl, Nat.le_refl _, heap_alloc_new W5 _, by omega, by unfold maxLen; omega, rfl, rfl⟩⟩
                have HC5 : Hid (∀ j u, (bcells (l.drop n))[j]? = some u → (W5.alloc (.cells #[] 5)).cell? ((⟨bb, o2, none⟩ : Addr).add j) = some u) := fun j u hj => by
                  have hjl := (List.getElem?_eq_some_iff.1 hj).1
                  rw [bcells_len, hdl] at hjl
                  have e : (⟨bb, o2, none⟩ : Addr).add j = ⟨bb, bo + (n + j), none⟩ := by rw [Lib.add_plain, ho2 (by omega)]; congr 1; omega
                  rw [e]
                  refine HCB.out _ (hb.alloc hb.size _) (n + j) u ?_
                  rw [bcells_getElem?, List.getElem?_drop] at hj
                  rw [bcells_getElem?]
                  exact hj
                clear hdl ho2
                obtain ⟨i0, hi, hz0', hz1', hz2'⟩ := info_parts info5
                have k0 : W5.cell? ⟨W2.heap.size, 0, none⟩ = some (.int .u64 (r.id : Int)) := cell_of_row _ _ 0 _ _ _ hk1
                have k1 : W5.cell? ⟨W2.heap.size, 1, none⟩ = some (.int .i64 r.kind) := cell_of_row _ _ 1 _ _ _ hk1
                have k2 : W5.cell? ⟨W2.heap.size, 2, none⟩ = some (.string r.bu) := cell_of_row _ _ 2 _ _ _ hk1
                have k3 : W5.cell? ⟨W2.heap.size, 3, none⟩ = some (.string r.ke) := cell_of_row _ _ 3 _ _ _ hk1
                have k4 : W5.cell? ⟨W2.heap.size, 4, none⟩ = some (.string r.af) := cell_of_row _ _ 4 _ _ _ hk1
                have k5 : W5.cell? ⟨W2.heap.size, 5, none⟩ = some (.int .i64 r.n) := cell_of_row _ _ 5 _ _ _ hk1
                have k6 : W5.cell? ⟨W2.heap.size, 6, none⟩ = some (.int .u64 (r.up : Int)) := cell_of_row _ _ 6 _ _ _ hk1
                have k7 : W5.cell? ⟨W2.heap.size, 7, none⟩ = some (.slice va r.ps.length vc) := cell_of_row _ _ 7 _ _ _ hk1
                have k8 : W5.cell? ⟨W2.heap.size, 8, none⟩ = some (.slice none 0 0) := cell_of_row _ _ 8 _ _ _ hk1
                have kf : ∀ j, W5.frozen? ⟨W2.heap.size, j, none⟩ = false := fun j => frozen_of_row W5 (W2.heap.size) j _ _ hk1
                go_upto_region 22 with (at_builtin; refine wpList_append_own _ rfl _ _ 24 rfl W5.heap.size 5 i0 (.int .u8 0) 1 1 Tryz.underlying24 hi hz0' hz1' hz2' rfl (by decide) _ _ _ rfl HO5.out ⟨bb, o2, none⟩ (l.length - n) (c - n) (bcells (l.drop n)) rfl (by rw [bcells_len, HDL.out, Nat.mul_one]) HC5.out (bcells_one _) (by unfold maxLen; omega) (by omega) (by simp) ?_; intro v6 w6 hown6 hgr6 _; clear k0 k1 k2 k3 k4 k5 k6 k7 k8 kf q1 q2; have hsq5 := hsq; obtain ⟨va6, vc6, hv6, hrow6, hb1, _⟩ := append_new hb HDL.out hown6 hgr6; subst hv6; clear hown6 hgr6; have hz0 : w6.heap[w.heap.size]? = some (.cells #[.int .u64 0, .int .i64 0, .string ⟨#[]⟩, .string ⟨#[]⟩, .string ⟨#[]⟩, .int .i64 0, .int .u64 0, .slice none 0 0, .slice none 0 0] 26 (0, 0)) := (hb1.block _ hsz).trans hz0; have hb := hb.trans (hb1.mono hb.size); have hsz : w.heap.size < w6.heap.size := lt_of_at hz0; have hk1 : w6.heap[W2.heap.size]? = some (.cells #[.int .u64 (r.id : Int), .int .i64 r.kind, .string r.bu, .string r.ke, .string r.af, .int .i64 r.n, .int .u64 (r.up : Int), .slice va r.ps.length vc, .slice none 0 0] 26 (0, 0)) := (hb1.block _ hsq).trans hk1; have hbq := hbq.trans (hb1.mono hbq.size); have hsq : W2.heap.size < w6.heap.size := lt_of_at hk1; have k0 : w6.cell? ⟨W2.heap.size, 0, none⟩ = some (.int .u64 (r.id : Int)) := cell_of_row _ _ 0 _ _ _ hk1; have k1 : w6.cell? ⟨W2.heap.size, 1, none⟩ = some (.int .i64 r.kind) := cell_of_row _ _ 1 _ _ _ hk1; have k2 : w6.cell? ⟨W2.heap.size, 2, none⟩ = some (.string r.bu) := cell_of_row _ _ 2 _ _ _ hk1; have k3 : w6.cell? ⟨W2.heap.size, 3, none⟩ = some (.string r.ke) := cell_of_row _ _ 3 _ _ _ hk1; have k4 : w6.cell? ⟨W2.heap.size, 4, none⟩ = some (.string r.af) := cell_of_row _ _ 4 _ _ _ hk1; have k5 : w6.cell? ⟨W2.heap.size, 5, none⟩ = some (.int .i64 r.n) := cell_of_row _ _ 5 _ _ _ hk1; have k6 : w6.cell? ⟨W2.heap.size, 6, none⟩ = some (.int .u64 (r.up : Int)) := cell_of_row _ _ 6 _ _ _ hk1; have k7 : w6.cell? ⟨W2.heap.size, 7, none⟩ = some (.slice va r.ps.length vc) := cell_of_row _ _ 7 _ _ _ hk1; have k8 : w6.cell? ⟨W2.heap.size, 8, none⟩ = some (.slice none 0 0) := cell_of_row _ _ 8 _ _ _ hk1; have kf : ∀ j, w6.frozen? ⟨W2.heap.size, j, none⟩ = false := fun j => frozen_of_row w6 (W2.heap.size) j _ _ hk1)
                clear k0 k1 k2 k3 k4 k5 k6 k7 k8 kf
                have hk2 := heap_setCell_same w6 W2.heap.size 8 _ _ (.slice va6 (l.length - n) vc6) hk1
                have hz2 := (Below.heap_setCell w6 ⟨W2.heap.size, 8, none⟩ (.slice va6 (l.length - n) vc6) w.heap.size (by show w.heap.size ≠ W2.heap.size; omega)).trans hz0
                have hb3 := hb.setCell (p := ⟨W2.heap.size, 8, none⟩) (Nat.le_of_lt hs2) (.slice va6 (l.length - n) vc6)
                have hq3 := hbq.setCell (p := ⟨W2.heap.size, 8, none⟩) (Nat.le_refl _) (.slice va6 (l.length - n) vc6)
                have hrd := (hrow6.x hsq5).set (Nat.le_refl _) 8 (.slice va6 (l.length - n) vc6)
                clear hk1 hz0 hb hbq hsz hsq hrow6 hb1
                generalize w6.setCell ⟨W2.heap.size, 8, none⟩ (.slice va6 (l.length - n) vc6) = W7 at *
                have hz0 := hz2
                have hk1 : W7.heap[W2.heap.size]? = some (.cells #[.int .u64 (r.id : Int), .int .i64 r.kind, .string r.bu, .string r.ke, .string r.af, .int .i64 r.n, .int .u64 (r.up : Int), .slice va r.ps.length vc, .slice va6 (l.length - n) vc6] 26 (0, 0)) := hk2
                have hb := hb3
                have hbq := hq3
                have hsz : w.heap.size < W7.heap.size := lt_of_at hz0
                have hsq : W2.heap.size < W7.heap.size := lt_of_at hk1
                clear hz2 hk2 hb3 hq3
                have HCk := Lib.hid (HC.out W7 (l.drop n) (.slice va6 (l.length - n) vc6) hbq hrd.c.row)
                have HRD := Lib.hid hrd
                clear HC hrd
                have k0 : W7.cell? ⟨W2.heap.size, 0, none⟩ = some (.int .u64 (r.id : Int)) := cell_of_row _ _ 0 _ _ _ hk1
                have k1 : W7.cell? ⟨W2.heap.size, 1, none⟩ = some (.int .i64 r.kind) := cell_of_row _ _ 1 _ _ _ hk1
                have k2 : W7.cell? ⟨W2.heap.size, 2, none⟩ = some (.string r.bu) := cell_of_row _ _ 2 _ _ _ hk1
                have k3 : W7.cell? ⟨W2.heap.size, 3, none⟩ = some (.string r.ke) := cell_of_row _ _ 3 _ _ _ hk1
                have k4 : W7.cell? ⟨W2.heap.size, 4, none⟩ = some (.string r.af) := cell_of_row _ _ 4 _ _ _ hk1
                have k5 : W7.cell? ⟨W2.heap.size, 5, none⟩ = some (.int .i64 r.n) := cell_of_row _ _ 5 _ _ _ hk1
                have k6 : W7.cell? ⟨W2.heap.size, 6, none⟩ = some (.int .u64 (r.up : Int)) := cell_of_row _ _ 6 _ _ _ hk1
                have k7 : W7.cell? ⟨W2.heap.size, 7, none⟩ = some (.slice va r.ps.length vc) := cell_of_row _ _ 7 _ _ _ hk1
                have k8 : W7.cell? ⟨W2.heap.size, 8, none⟩ = some (.slice va6 (l.length - n) vc6) := cell_of_row _ _ 8 _ _ _ hk1
                have kf : ∀ j, W7.frozen? ⟨W2.heap.size, j, none⟩ = false := fun j => frozen_of_row W7 (W2.heap.size) j _ _ hk1
                cases hc : chkB (withDa r (l.drop n)) with
                | false =>
                  have HRR := Lib.hid (HK6.out hc)
                  have HCk2 : Hid (Calls Tryz.prog 22 #[opV r (.slice va r.ps.length vc) (.slice va6 (l.length - n) vc6)] W7 fun e w' => e = .returned (.int .i64 1) ∧ Below W7.heap.size W7 w') := HCk.out.mono fun _ _ ⟨h1, h2⟩ => ⟨by rw [h1, hc]; rfl, h2⟩
                  clear hc HCk
                  go_wp2_with fail
                  refine HCk2.out.mono ?_
                  rintro e W8 ⟨rfl, hb1⟩
                  have hz0 : W8.heap[w.heap.size]? = some (.cells #[.int .u64 0, .int .i64 0, .string ⟨#[]⟩, .string ⟨#[]⟩, .string ⟨#[]⟩, .int .i64 0, .int .u64 0, .slice none 0 0, .slice none 0 0] 26 (0, 0)) := (hb1.block _ hsz).trans hz0
                  have hb := hb.trans (hb1.mono hb.size)
                  have hsz : w.heap.size < W8.heap.size := lt_of_at hz0
                  clear hb1 HCk2
                  have z0 : W8.cell? ⟨w.heap.size, 0, none⟩ = some (.int .u64 0) := cell_of_row _ _ 0 _ _ _ hz0
                  have z1 : W8.cell? ⟨w.heap.size, 1, none⟩ = some (.int .i64 0) := cell_of_row _ _ 1 _ _ _ hz0
                  have z2 : W8.cell? ⟨w.heap.size, 2, none⟩ = some (.string ⟨#[]⟩) := cell_of_row _ _ 2 _ _ _ hz0
                  have z3 : W8.cell? ⟨w.heap.size, 3, none⟩ = some (.string ⟨#[]⟩) := cell_of_row _ _ 3 _ _ _ hz0
                  have z4 : W8.cell? ⟨w.heap.size, 4, none⟩ = some (.string ⟨#[]⟩) := cell_of_row _ _ 4 _ _ _ hz0
                  have z5 : W8.cell? ⟨w.heap.size, 5, none⟩ = some (.int .i64 0) := cell_of_row _ _ 5 _ _ _ hz0
                  have z6 : W8.cell? ⟨w.heap.size, 6, none⟩ = some (.int .u64 0) := cell_of_row _ _ 6 _ _ _ hz0
                  have z7 : W8.cell? ⟨w.heap.size, 7, none⟩ = some (.slice none 0 0) := cell_of_row _ _ 7 _ _ _ hz0
                  have z8 : W8.cell? ⟨w.heap.size, 8, none⟩ = some (.slice none 0 0) := cell_of_row _ _ 8 _ _ _ hz0
                  have zf : ∀ j, W8.frozen? ⟨w.heap.size, j, none⟩ = false := fun j => frozen_of_row W8 (w.heap.size) j _ _ hz0
                  go_wp2
                  exact tgt_ret (W := setOp W8 w.heap.size zeroO (.slice none 0 0) (.slice none 0 0)) Tryz.results20 rfl rfl (setOp_same hz0 rfl) (par_zero HRR.out (setOp_low hb (Nat.le_refl _) _ _ _))
                | true =>
                  have HRR := Lib.hid (HK2.out hc)
                  have HCk2 : Hid (Calls Tryz.prog 22 #[opV r (.slice va r.ps.length vc) (.slice va6 (l.length - n) vc6)] W7 fun e w' => e = .returned (.int .i64 0) ∧ Below W7.heap.size W7 w') := HCk.out.mono fun _ _ ⟨h1, h2⟩ => ⟨by rw [h1, hc]; rfl, h2⟩
                  clear hc HCk
                  go_wp2_with fail
                  refine HCk2.out.mono ?_
                  rintro e W8 ⟨rfl, hb1⟩
                  clear k0 k1 k2 k3 k4 k5 k6 k7 k8 kf
                  have HRP := Lib.hid ((HR.out.below hbq).below hb1)
                  have HRD8 := Lib.hid (HRD.out.below hb1)
                  have hz0 : W8.heap[w.heap.size]? = some (.cells #[.int .u64 0, .int .i64 0, .string ⟨#[]⟩, .string ⟨#[]⟩, .string ⟨#[]⟩, .int .i64 0, .int .u64 0, .slice none 0 0, .slice none 0 0] 26 (0, 0)) := (hb1.block _ hsz).trans hz0
                  have hb := hb.trans (hb1.mono hb.size)
                  have hsz : w.heap.size < W8.heap.size := lt_of_at hz0
                  have hk1 : W8.heap[W2.heap.size]? = some (.cells #[.int .u64 (r.id : Int), .int .i64 r.kind, .string r.bu, .string r.ke, .string r.af, .int .i64 r.n, .int .u64 (r.up : Int), .slice va r.ps.length vc, .slice va6 (l.length - n) vc6] 26 (0, 0)) := (hb1.block _ hsq).trans hk1
                  have hbq := hbq.trans (hb1.mono hbq.size)
                  have hsq : W2.heap.size < W8.heap.size := lt_of_at hk1
                  clear hb1 HCk2
                  have z0 : W8.cell? ⟨w.heap.size, 0, none⟩ = some (.int .u64 0) := cell_of_row _ _ 0 _ _ _ hz0
                  have z1 : W8.cell? ⟨w.heap.size, 1, none⟩ = some (.int .i64 0) := cell_of_row _ _ 1 _ _ _ hz0
                  have z2 : W8.cell? ⟨w.heap.size, 2, none⟩ = some (.string ⟨#[]⟩) := cell_of_row _ _ 2 _ _ _ hz0
                  have z3 : W8.cell? ⟨w.heap.size, 3, none⟩ = some (.string ⟨#[]⟩) := cell_of_row _ _ 3 _ _ _ hz0
                  have z4 : W8.cell? ⟨w.heap.size, 4, none⟩ = some (.string ⟨#[]⟩) := cell_of_row _ _ 4 _ _ _ hz0
                  have z5 : W8.cell? ⟨w.heap.size, 5, none⟩ = some (.int .i64 0) := cell_of_row _ _ 5 _ _ _ hz0
                  have z6 : W8.cell? ⟨w.heap.size, 6, none⟩ = some (.int .u64 0) := cell_of_row _ _ 6 _ _ _ hz0
                  have z7 : W8.cell? ⟨w.heap.size, 7, none⟩ = some (.slice none 0 0) := cell_of_row _ _ 7 _ _ _ hz0
                  have z8 : W8.cell? ⟨w.heap.size, 8, none⟩ = some (.slice none 0 0) := cell_of_row _ _ 8 _ _ _ hz0
                  have zf : ∀ j, W8.frozen? ⟨w.heap.size, j, none⟩ = false := fun j => frozen_of_row W8 (w.heap.size) j _ _ hz0
                  have k0 : W8.cell? ⟨W2.heap.size, 0, none⟩ = some (.int .u64 (r.id : Int)) := cell_of_row _ _ 0 _ _ _ hk1
                  have k1 : W8.cell? ⟨W2.heap.size, 1, none⟩ = some (.int .i64 r.kind) := cell_of_row _ _ 1 _ _ _ hk1
                  have k2 : W8.cell? ⟨W2.heap.size, 2, none⟩ = some (.string r.bu) := cell_of_row _ _ 2 _ _ _ hk1
                  have k3 : W8.cell? ⟨W2.heap.size, 3, none⟩ = some (.string r.ke) := cell_of_row _ _ 3 _ _ _ hk1
                  have k4 : W8.cell? ⟨W2.heap.size, 4, none⟩ = some (.string r.af) := cell_of_row _ _ 4 _ _ _ hk1
                  have k5 : W8.cell? ⟨W2.heap.size, 5, none⟩ = some (.int .i64 r.n) := cell_of_row _ _ 5 _ _ _ hk1
                  have k6 : W8.cell? ⟨W2.heap.size, 6, none⟩ = some (.int .u64 (r.up : Int)) := cell_of_row _ _ 6 _ _ _ hk1
                  have k7 : W8.cell? ⟨W2.heap.size, 7, none⟩ = some (.slice va r.ps.length vc) := cell_of_row _ _ 7 _ _ _ hk1
                  have k8 : W8.cell? ⟨W2.heap.size, 8, none⟩ = some (.slice va6 (l.length - n) vc6) := cell_of_row _ _ 8 _ _ _ hk1
                  have kf : ∀ j, W8.frozen? ⟨W2.heap.size, j, none⟩ = false := fun j => frozen_of_row W8 (W2.heap.size) j _ _ hk1
                  go_wp2
                  refine tgt_ret (W := setOp W8 w.heap.size (withDa r (l.drop n)) (.slice va r.ps.length vc) (.slice va6 (l.length - n) vc6)) Tryz.results20 rfl rfl (setOp_same hz0 rfl) ?_
                  rw [HRR.out]
                  exact ⟨_, _, rfl, (HRP.out.setOp (Nat.le_refl _) _ _ _).c, (HRD8.out.setOp (Nat.le_of_lt hs2) _ _ _).c, setOp_low hb (Nat.le_refl _) _ _ _⟩
              · have q1 : ((v : Int) == (l.length : Int) - (n : Int)) = false := beq_eq_false_iff_ne.2 (by omega)
                have q2 : ((v : Int) != (l.length : Int) - (n : Int)) = true := by rw [bne, q1]; rfl
                have HRR := Lib.hid (HK5.out hlv)
                clear hlv HC HK5 HK6 HK2
                have z0 : W5.cell? ⟨w.heap.size, 0, none⟩ = some (.int .u64 0) := cell_of_row _ _ 0 _ _ _ hz0
                have z1 : W5.cell? ⟨w.heap.size, 1, none⟩ = some (.int .i64 0) := cell_of_row _ _ 1 _ _ _ hz0
                have z2 : W5.cell? ⟨w.heap.size, 2, none⟩ = some (.string ⟨#[]⟩) := cell_of_row _ _ 2 _ _ _ hz0
                have z3 : W5.cell? ⟨w.heap.size, 3, none⟩ = some (.string ⟨#[]⟩) := cell_of_row _ _ 3 _ _ _ hz0
                have z4 : W5.cell? ⟨w.heap.size, 4, none⟩ = some (.string ⟨#[]⟩) := cell_of_row _ _ 4 _ _ _ hz0
                have z5 : W5.cell? ⟨w.heap.size, 5, none⟩ = some (.int .i64 0) := cell_of_row _ _ 5 _ _ _ hz0
                have z6 : W5.cell? ⟨w.heap.size, 6, none⟩ = some (.int .u64 0) := cell_of_row _ _ 6 _ _ _ hz0
                have z7 : W5.cell? ⟨w.heap.size, 7, none⟩ = some (.slice none 0 0) := cell_of_row _ _ 7 _ _ _ hz0
                have z8 : W5.cell? ⟨w.heap.size, 8, none⟩ = some (.slice none 0 0) := cell_of_row _ _ 8 _ _ _ hz0
                have zf : ∀ j, W5.frozen? ⟨w.heap.size, j, none⟩ = false := fun j => frozen_of_row W5 (w.heap.size) j _ _ hz0
                go_wp2
                exact tgt_ret (W := setOp W5 w.heap.size zeroO (.slice none 0 0) (.slice none 0 0)) Tryz.results20 rfl rfl (setOp_same hz0 rfl) (par_zero HRR.out (setOp_low hb (Nat.le_refl _) _ _ _))
        · have hq := str_other heq
          have HRR : Hid (parseF l = (zeroO, 400)) := parN_2 HK.out heq
          clear heq
          refine wp_region_quiet_below (by kernel_rfl) (by kernel_rfl) ?_
          repeat (go_big_quiet_step ((go_at_call 37; exact HH.out _ _)))
          refine wpQuiet_nil ?_
          intro W4 hw'
          obtain ⟨⟨dq, osq⟩, hw''⟩ := hw'
          have hb1 : Below W3.heap.size W3 W4 := hw'' ▸ below_regrown _ _ _
          clear hw'' k0 k1 k2 k3 k4 k5 k6 k7 k8
          clear hcv HH hq
          have hz0 : W4.heap[w.heap.size]? = some (.cells #[.int .u64 0, .int .i64 0, .string ⟨#[]⟩, .string ⟨#[]⟩, .string ⟨#[]⟩, .int .i64 0, .int .u64 0, .slice none 0 0, .slice none 0 0] 26 (0, 0)) := (hb1.block _ hsz).trans hz0
          have hb := hb.trans (hb1.mono hb.size)
          have hsz : w.heap.size < W4.heap.size := lt_of_at hz0
          have z0 : W4.cell? ⟨w.heap.size, 0, none⟩ = some (.int .u64 0) := cell_of_row _ _ 0 _ _ _ hz0
          have z1 : W4.cell? ⟨w.heap.size, 1, none⟩ = some (.int .i64 0) := cell_of_row _ _ 1 _ _ _ hz0
          have z2 : W4.cell? ⟨w.heap.size, 2, none⟩ = some (.string ⟨#[]⟩) := cell_of_row _ _ 2 _ _ _ hz0
          have z3 : W4.cell? ⟨w.heap.size, 3, none⟩ = some (.string ⟨#[]⟩) := cell_of_row _ _ 3 _ _ _ hz0
          have z4 : W4.cell? ⟨w.heap.size, 4, none⟩ = some (.string ⟨#[]⟩) := cell_of_row _ _ 4 _ _ _ hz0
          have z5 : W4.cell? ⟨w.heap.size, 5, none⟩ = some (.int .i64 0) := cell_of_row _ _ 5 _ _ _ hz0
          have z6 : W4.cell? ⟨w.heap.size, 6, none⟩ = some (.int .u64 0) := cell_of_row _ _ 6 _ _ _ hz0
          have z7 : W4.cell? ⟨w.heap.size, 7, none⟩ = some (.slice none 0 0) := cell_of_row _ _ 7 _ _ _ hz0
          have z8 : W4.cell? ⟨w.heap.size, 8, none⟩ = some (.slice none 0 0) := cell_of_row _ _ 8 _ _ _ hz0
          have zf : ∀ j, W4.frozen? ⟨w.heap.size, j, none⟩ = false := fun j => frozen_of_row W4 (w.heap.size) j _ _ hz0
          go_wp2
          exact tgt_ret (W := setOp W4 w.heap.size zeroO (.slice none 0 0) (.slice none 0 0)) Tryz.results20 rfl rfl (setOp_same hz0 rfl) (par_zero HRR.out (setOp_low hb (Nat.le_refl _) _ _ _))
end Go.Proofs.YtnlooggibopknaaGreatDoor
