/- The walk of the reference's head. -/
import Derived.Test.YtnlooggibopknaaGreatDoorW38
import Derived.Test.YtnlooggibopknaaGreatDoorW36
import Derived.Deep.RegionLaw
namespace Go.Proofs.YtnlooggibopknaaGreatDoor
open Go.RowKit Go.Sort

theorem target_ln {o : O} (hS : LnO o) : (targetB o).size ≤ 30000000 := by
  have h1 := hS.bu
  have h2 := hS.ke
  have h3 := hS.af
  have h4 : (itoaB o.n).size ≤ 19 := by rw [itoaB_nat _ hS.n0]; exact decB_size _ (by have := hS.n1; omega)
  have h5 := hexB_size o.up
  have h6 := escB_size o.ke
  have h7 := escB_size o.af
  have h8 := commaB_le hS.ps hS.pe
  have e1 : sSlash.size = 1 := rfl
  have e2 : sPrefix.size = 8 := rfl
  have e3 : sAfter.size = 7 := rfl
  have e4 : sN.size = 3 := rfl
  have e5 : sUpload.size = 9 := rfl
  have e6 : sPart.size = 6 := rfl
  have e7 : sParts.size = 7 := rfl
  unfold targetB
  repeat (first | split | (simp only [ByteArray.size_append]; omega))
theorem line_size {o : O} (hS : LnO o) : (lineB o).size ≤ 30000010 := by
  have := target_ln hS
  have h2 := methodB_size o.kind
  unfold lineB
  simp only [ByteArray.size_append]
  have e1 : sSpace.size = 1 := rfl
  omega
theorem head_lit (o : O) (len : ByteArray) : lineB o ++ ⟨#[32, 71, 76, 67, 47, 49, 13, 10, 105, 100, 58, 32]⟩ ++ hexB o.id ++ ⟨#[13, 10, 108, 101, 110, 103, 116, 104, 58, 32]⟩ ++ len ++ ⟨#[13, 10, 13, 10]⟩ = headB o len := by
  have e1 : (⟨#[32, 71, 76, 67, 47, 49, 13, 10, 105, 100, 58, 32]⟩ : ByteArray) = sSpace ++ (sVer ++ (sEnd ++ sId)) := bl_inj rfl
  have e2 : (⟨#[13, 10, 108, 101, 110, 103, 116, 104, 58, 32]⟩ : ByteArray) = sEnd ++ sLen := bl_inj rfl
  have e3 : (⟨#[13, 10, 13, 10]⟩ : ByteArray) = sEnd ++ sEnd := bl_inj rfl
  rw [e1, e2, e3]
  unfold headB lineB
  simp only [ba_assoc]

set_option maxHeartbeats 2000000 in
set_option maxRecDepth 100000 in
theorem headR_any (o : O) (pv dv : Value) (len : ByteArray) (w : World) (hp : RowIn w pv (icells o.ps)) (hS : LnO o) (hl : len.size ≤ 1000000) :
    Calls Tryz.prog 37 #[opV o pv dv, .string len] w fun e w' => e = .returned (.string (headB o len)) ∧ Below w.heap.size w w' := by
  have HB : Hid (∀ x, Below w.heap.size w (w.alloc x)) := fun x => (Below.refl _ _).alloc (Nat.le_refl _) x
  have HLn : Hid (∀ x d os, Calls Tryz.prog 74 #[opV o pv dv] (grow (redrawn (w.alloc x) d) os) fun e w'' => e = .returned (.string (lineB o)) ∧ ∃ p : Regrown, w'' = grow (redrawn (w.alloc x) p.d) p.os) := fun x d os => Calls.regrown_of (line_any o pv dv _ ((hp.below (HB.out x)).below (below_regrown _ d os)) hS)
  have hid := hS.id
  have z1 := line_size hS
  have z2 := hexB_size o.id
  have n1 : ¬ 9223372036854775807 < (lineB o).size + 12 := by omega
  have n2 : ¬ 9223372036854775807 < (lineB o).size + 12 + (hexB o.id).size := by omega
  have n3 : ¬ 9223372036854775807 < (lineB o).size + 12 + (hexB o.id).size + 10 := by omega
  have n4 : ¬ 9223372036854775807 < (lineB o).size + 12 + (hexB o.id).size + 10 + len.size := by omega
  have n5 : ¬ 9223372036854775807 < (lineB o).size + 12 + (hexB o.id).size + 10 + len.size + 4 := by omega
  have k0 := @c9_0 w (.int .u64 o.id) (.int .i64 o.kind) (.string o.bu) (.string o.ke) (.string o.af) (.int .i64 o.n) (.int .u64 o.up) pv dv
  have k1 := @c9_1 w (.int .u64 o.id) (.int .i64 o.kind) (.string o.bu) (.string o.ke) (.string o.af) (.int .i64 o.n) (.int .u64 o.up) pv dv
  have k2 := @c9_2 w (.int .u64 o.id) (.int .i64 o.kind) (.string o.bu) (.string o.ke) (.string o.af) (.int .i64 o.n) (.int .u64 o.up) pv dv
  have k3 := @c9_3 w (.int .u64 o.id) (.int .i64 o.kind) (.string o.bu) (.string o.ke) (.string o.af) (.int .i64 o.n) (.int .u64 o.up) pv dv
  have k4 := @c9_4 w (.int .u64 o.id) (.int .i64 o.kind) (.string o.bu) (.string o.ke) (.string o.af) (.int .i64 o.n) (.int .u64 o.up) pv dv
  have k5 := @c9_5 w (.int .u64 o.id) (.int .i64 o.kind) (.string o.bu) (.string o.ke) (.string o.af) (.int .i64 o.n) (.int .u64 o.up) pv dv
  have k6 := @c9_6 w (.int .u64 o.id) (.int .i64 o.kind) (.string o.bu) (.string o.ke) (.string o.af) (.int .i64 o.n) (.int .u64 o.up) pv dv
  have k7 := @c9_7 w (.int .u64 o.id) (.int .i64 o.kind) (.string o.bu) (.string o.ke) (.string o.af) (.int .i64 o.n) (.int .u64 o.up) pv dv
  have k8 := @c9_8 w (.int .u64 o.id) (.int .i64 o.kind) (.string o.bu) (.string o.ke) (.string o.af) (.int .i64 o.n) (.int .u64 o.up) pv dv
  clear hp hS z1 z2
  go_enter Tryz.func37, Tryz.ntmps37
  go_wp2
  refine wp_region_quiet_below (by kernel_rfl) (by kernel_rfl) ?_
  repeat (quiet_step (first | (go_at_call 74; exact HLn.out _ _ _) | (go_at_call 58; exact hex_re _ hid _ _)))
  refine wpQuiet_nil ?_
  intro _ hw'
  obtain ⟨⟨dq, osq⟩, hw''⟩ := hw'
  subst hw''
  go_wp2
  go_ret
  exact ⟨ret_strEq (head_lit o len).symm, (HB.out _).trans ((below_regrown _ _ _).mono (by rw [World.size_alloc]; omega))⟩
end Go.Proofs.YtnlooggibopknaaGreatDoor

/- The walk of the reference's Print. -/
namespace Go.Proofs.YtnlooggibopknaaGreatDoor
open Go.RowKit Go.Sort

theorem step_append_run {P : Program} {w : World} {ops : Array Oper} {o : Oper} {a : Act} {K : Act → World → Prop} {Q : Exit → Act → World → Prop} {E : Prop} (hgd : o.guard = none) (s x : Operand) (t : TypeId)
    (ho : o.op = .call { callee := .builtin .append, args := #[s, x], argTypes := #[t, t] }) (v1 v2 v : Value) (w' : World) (hs : a.eval s = v1) (hx : a.eval x = v2)
    (hr : (Builtin.append_ #[t, t] o.type #[v1, v2]).run P w = .ok v w') (h : K (a.put o.dst v) w') :
    if Region.wanted o (yielded ops a.tmps) = true then Oper.wp P o a w K Q else E := by
  have hw : Region.wanted o (yielded ops a.tmps) = true := by simp [Region.wanted, hgd]
  rw [if_pos hw]
  unfold Oper.wp
  simp [execOp, ho, resolve, invoke, builtin, hs, hx, hr, Result.andThen]
  exact h
set_option maxRecDepth 100000 in
/-- append onto '[]byte(s)', at a step of a region that draws. -/
theorem step_append_conv {ops : Array Oper} {o : Oper} {a : Act} {K : Act → World → Prop} {Q : Exit → Act → World → Prop} {E : Prop} {W : World} (hgd : o.guard = none) (s x : Operand)
    (ho : o.op = .call { callee := .builtin .append, args := #[s, x], argTypes := #[24, 24] }) (hty : o.type = 24) (S : ByteArray) (dv : Value) (l : List UInt8)
    (hs : a.eval s = .slice (some ⟨W.heap.size, 0, none⟩) S.size (grownCap W S.size 0 5)) (hx : a.eval x = dv) (hd : RowIn W dv (bcells l)) (h1 : S.size + l.length ≤ 1073741824)
    (h : ∀ v w', RowC w' v (bcells (S.data.toList ++ l)) → Below W.heap.size W w' → K (a.put o.dst v) w') :
    if Region.wanted o (yielded ops a.tmps) = true then Oper.wp Tryz.prog o a (Lib.bytesWorld W 5 S) K Q else E := by
  obtain ⟨v, w', hr, hrow, hb⟩ := append_conv W S dv l hd h1
  refine step_append_run hgd s x 24 ho _ dv v w' hs hx ?_ (h v w' hrow hb)
  rw [hty]
  exact hr

/-- What the region holds: the op's own cells, and that nothing else has turned. -/
theorem sp_below {B : Nat} {w W W1 : World} {a0 a1 a2 a3 a4 a5 a6 a7 a8 : Value} (h : (B < W.heap.size ∧ Below w.heap.size w W) ∧ W.cell? ⟨B, 0, none⟩ = some a0 ∧ W.cell? ⟨B, 1, none⟩ = some a1 ∧ W.cell? ⟨B, 2, none⟩ = some a2 ∧ W.cell? ⟨B, 3, none⟩ = some a3 ∧ W.cell? ⟨B, 4, none⟩ = some a4 ∧ W.cell? ⟨B, 5, none⟩ = some a5 ∧ W.cell? ⟨B, 6, none⟩ = some a6 ∧ W.cell? ⟨B, 7, none⟩ = some a7 ∧ W.cell? ⟨B, 8, none⟩ = some a8) (hb : Below W.heap.size W W1) :
    (B < W1.heap.size ∧ Below w.heap.size w W1) ∧ W1.cell? ⟨B, 0, none⟩ = some a0 ∧ W1.cell? ⟨B, 1, none⟩ = some a1 ∧ W1.cell? ⟨B, 2, none⟩ = some a2 ∧ W1.cell? ⟨B, 3, none⟩ = some a3 ∧ W1.cell? ⟨B, 4, none⟩ = some a4 ∧ W1.cell? ⟨B, 5, none⟩ = some a5 ∧ W1.cell? ⟨B, 6, none⟩ = some a6 ∧ W1.cell? ⟨B, 7, none⟩ = some a7 ∧ W1.cell? ⟨B, 8, none⟩ = some a8 := by
  obtain ⟨⟨h1, h2⟩, g0, g1, g2, g3, g4, g5, g6, g7, g8⟩ := h
  have c := fun o => (bcell hb).1 B o h1
  exact ⟨⟨Nat.lt_of_lt_of_le h1 hb.size, h2.trans (hb.mono h2.size)⟩, (c 0).trans g0, (c 1).trans g1, (c 2).trans g2, (c 3).trans g3, (c 4).trans g4, (c 5).trans g5, (c 6).trans g6, (c 7).trans g7, (c 8).trans g8⟩

theorem sp_bl {B : Nat} {w W : World} {a0 a1 a2 a3 a4 a5 a6 a7 a8 : Value} (h : (B < W.heap.size ∧ Below w.heap.size w W) ∧ W.cell? ⟨B, 0, none⟩ = some a0 ∧ W.cell? ⟨B, 1, none⟩ = some a1 ∧ W.cell? ⟨B, 2, none⟩ = some a2 ∧ W.cell? ⟨B, 3, none⟩ = some a3 ∧ W.cell? ⟨B, 4, none⟩ = some a4 ∧ W.cell? ⟨B, 5, none⟩ = some a5 ∧ W.cell? ⟨B, 6, none⟩ = some a6 ∧ W.cell? ⟨B, 7, none⟩ = some a7 ∧ W.cell? ⟨B, 8, none⟩ = some a8) : Below w.heap.size w W := h.1.2
theorem sp_drew {B : Nat} {w W : World} {a0 a1 a2 a3 a4 a5 a6 a7 a8 : Value} (h : (B < W.heap.size ∧ Below w.heap.size w W) ∧ W.cell? ⟨B, 0, none⟩ = some a0 ∧ W.cell? ⟨B, 1, none⟩ = some a1 ∧ W.cell? ⟨B, 2, none⟩ = some a2 ∧ W.cell? ⟨B, 3, none⟩ = some a3 ∧ W.cell? ⟨B, 4, none⟩ = some a4 ∧ W.cell? ⟨B, 5, none⟩ = some a5 ∧ W.cell? ⟨B, 6, none⟩ = some a6 ∧ W.cell? ⟨B, 7, none⟩ = some a7 ∧ W.cell? ⟨B, 8, none⟩ = some a8) :
    (B < W.drew.heap.size ∧ Below w.heap.size w W.drew) ∧ W.drew.cell? ⟨B, 0, none⟩ = some a0 ∧ W.drew.cell? ⟨B, 1, none⟩ = some a1 ∧ W.drew.cell? ⟨B, 2, none⟩ = some a2 ∧ W.drew.cell? ⟨B, 3, none⟩ = some a3 ∧ W.drew.cell? ⟨B, 4, none⟩ = some a4 ∧ W.drew.cell? ⟨B, 5, none⟩ = some a5 ∧ W.drew.cell? ⟨B, 6, none⟩ = some a6 ∧ W.drew.cell? ⟨B, 7, none⟩ = some a7 ∧ W.drew.cell? ⟨B, 8, none⟩ = some a8 :=
  sp_below (W := W) (W1 := W.drew) h (below_drewN (Below.refl W.heap.size W) 1)

set_option maxHeartbeats 1000000 in
set_option maxRecDepth 100000 in
theorem printR_yes (o : O) (pv dv : Value) (w : World) (hp : RowIn w pv (icells o.ps)) (hd : RowIn w dv (bcells o.da)) (hO : LnO o) (hda : o.da.length ≤ 16777216) (hc : chkB o = true) :
    Calls Tryz.prog 14 #[opV o pv dv] w (PrR o w) := by
  have hs : o.bu.size ≤ 1073741824 := by have := hO.bu; omega
  have HC : Hid (∀ W, Below w.heap.size w W → Calls Tryz.prog 22 #[opV o pv dv] W fun e w' => e = .returned (.int .i64 0) ∧ Below W.heap.size W w') := fun W hb => (rcheck_any o pv dv W (hp.below hb) (hd.below hb) hs).mono fun _ _ ⟨h1, h2⟩ => ⟨by rw [h1, hc]; rfl, h2⟩
  have HHd : Hid (∀ W, Below w.heap.size w W → Calls Tryz.prog 37 #[opV o pv dv, .string (decB o.da.length)] W fun e w' => e = .returned (.string (headB o (decB o.da.length))) ∧ Below W.heap.size W w') := fun W hb => headR_any o pv dv _ W (hp.below hb) hO (by have := decB_size o.da.length (by omega); omega)
  have HDc : Hid (∀ W, Calls Tryz.prog 38 #[.int .i64 (o.da.length : Int)] W fun e w' => e = .returned (.string (decB o.da.length)) ∧ Below W.heap.size W w') := fun W => decimal_any o.da.length W (by omega)
  have HH := Lib.hid hc
  have HD := Lib.hid hd
  obtain ⟨da, dc, rfl⟩ := hd.form
  rw [bcells_len] at HC HHd HD
  rw [bcells_len]
  have hcv := fun W => Lib.run_convert_string_bytes (P := Tryz.prog) W 9 24 5 (headB o (decB o.da.length)) (u := .string) Tryz.underlying9 Tryz.underlying24 Tryz.underlying5
  have hsum : (headB o (decB o.da.length)).size + o.da.length ≤ 1073741824 := by
    have h1 := line_size hO
    have h2 := hexB_size o.id
    have h3 := decB_size o.da.length (by omega)
    rw [← head_lit]
    simp only [ByteArray.size_append]
    have e1 : (⟨#[32, 71, 76, 67, 47, 49, 13, 10, 105, 100, 58, 32]⟩ : ByteArray).size = 12 := rfl
    have e2 : (⟨#[13, 10, 108, 101, 110, 103, 116, 104, 58, 32]⟩ : ByteArray).size = 10 := rfl
    have e3 : (⟨#[13, 10, 13, 10]⟩ : ByteArray).size = 4 := rfl
    omega
  clear hp hd hc hO hs
  go_enter Tryz.func14, Tryz.ntmps14
  go_wp2_with fail
  refine (HC.out _ ((Below.refl _ _).alloc (Nat.le_refl _) _)).mono ?_
  rintro e w1 ⟨rfl, hb⟩
  have c0 : w1.cell? ⟨w.heap.size, 0, none⟩ = some (.int .u64 o.id) := op_cells hb 0 _ rfl
  have c1 : w1.cell? ⟨w.heap.size, 1, none⟩ = some (.int .i64 o.kind) := op_cells hb 1 _ rfl
  have c2 : w1.cell? ⟨w.heap.size, 2, none⟩ = some (.string o.bu) := op_cells hb 2 _ rfl
  have c3 : w1.cell? ⟨w.heap.size, 3, none⟩ = some (.string o.ke) := op_cells hb 3 _ rfl
  have c4 : w1.cell? ⟨w.heap.size, 4, none⟩ = some (.string o.af) := op_cells hb 4 _ rfl
  have c5 : w1.cell? ⟨w.heap.size, 5, none⟩ = some (.int .i64 o.n) := op_cells hb 5 _ rfl
  have c6 : w1.cell? ⟨w.heap.size, 6, none⟩ = some (.int .u64 o.up) := op_cells hb 6 _ rfl
  have c7 : w1.cell? ⟨w.heap.size, 7, none⟩ = some pv := op_cells hb 7 _ rfl
  have c8 : w1.cell? ⟨w.heap.size, 8, none⟩ = some (.slice da o.da.length dc) := op_cells hb 8 _ rfl
  have hbB := below_box hb
  have hsz : w.heap.size < w1.heap.size := by have := hb.size; rw [World.size_alloc] at this; omega
  clear hb
  have hSP := (⟨⟨hsz, hbB⟩, c0, c1, c2, c3, c4, c5, c6, c7, c8⟩ : (w.heap.size < w1.heap.size ∧ Below w.heap.size w w1) ∧ w1.cell? ⟨w.heap.size, 0, none⟩ = some (.int .u64 o.id) ∧ w1.cell? ⟨w.heap.size, 1, none⟩ = some (.int .i64 o.kind) ∧ w1.cell? ⟨w.heap.size, 2, none⟩ = some (.string o.bu) ∧ w1.cell? ⟨w.heap.size, 3, none⟩ = some (.string o.ke) ∧ w1.cell? ⟨w.heap.size, 4, none⟩ = some (.string o.af) ∧ w1.cell? ⟨w.heap.size, 5, none⟩ = some (.int .i64 o.n) ∧ w1.cell? ⟨w.heap.size, 6, none⟩ = some (.int .u64 o.up) ∧ w1.cell? ⟨w.heap.size, 7, none⟩ = some pv ∧ w1.cell? ⟨w.heap.size, 8, none⟩ = some (.slice da o.da.length dc))
  go_wp2_with fail
  have hSA := sp_drew hSP
  clear hSP
  go_region_law
    (first
      | (refine step_append_conv (by rfl) _ _ (by rfl) (by rfl) (headB o (decB o.da.length)) _ o.da (by rfl) (by rfl) (HD.out.below (sp_bl hSA)) hsum (fun v w3 hrow3 hb3 => ?_))
      | (go_simp; go_at_call 38; refine (HDc.out _).mono ?_; rintro e w2 ⟨rfl, hb2⟩; have hSA := sp_below hSA hb2; obtain ⟨_, g0, g1, g2, g3, g4, g5, g6, g7, g8⟩ := id hSA)
      | (go_simp; go_at_call 37; refine (HHd.out _ (sp_bl hSA)).mono ?_; rintro e w2 ⟨rfl, hb2⟩; have hSA := sp_below hSA hb2; obtain ⟨⟨hs0, _⟩, _, _, _, _, _, _, _, _, g8⟩ := id hSA; have g8b := (Lib.bytesWorld_old w2 5 (headB o (decB o.da.length)) ⟨w.heap.size, 8, none⟩ hs0).trans g8))
  all_goals
    have HR3 := Lib.hid hrow3
    have HB3 := Lib.hid hb3
    have HB4 := Lib.hid ((sp_bl hSA).trans (hb3.mono (sp_bl hSA).size))
    clear hrow3 hb3
    go_wp2
    go_ret2
    refine ⟨v, by rw [HH.out]; rfl, ?_, HB4.out⟩
    unfold prL printL
    rw [HH.out, if_pos rfl]
    exact HR3.out

theorem printR_no (o : O) (pv dv : Value) (w : World) (hp : RowIn w pv (icells o.ps)) (hd : RowIn w dv (bcells o.da)) (hs : o.bu.size ≤ 1073741824) (hc : chkB o = false) :
    Calls Tryz.prog 14 #[opV o pv dv] w (PrR o w) := by
  have HC : Hid (∀ W, Below w.heap.size w W → Calls Tryz.prog 22 #[opV o pv dv] W fun e w' => e = .returned (.int .i64 1) ∧ Below W.heap.size W w') := fun W hb => (rcheck_any o pv dv W (hp.below hb) (hd.below hb) hs).mono fun _ _ ⟨h1, h2⟩ => ⟨by rw [h1, hc]; rfl, h2⟩
  have HH := Lib.hid hc
  clear hp hd hc
  go_enter Tryz.func14, Tryz.ntmps14
  go_wp2_with fail
  refine (HC.out _ ((Below.refl _ _).alloc (Nat.le_refl _) _)).mono ?_
  rintro e w1 ⟨rfl, hb⟩
  go_wp2
  go_ret2
  refine ⟨.slice none 0 0, by rw [HH.out]; rfl, ?_, below_box hb⟩
  unfold prL
  rw [HH.out]
  exact RowC.nil _ _ _
/-- A right op is one that the reference's line takes. -/
theorem ln_of {o : O} (hO : OkO o) (h : chkB o = true) : LnO o := by
  have hS := sm_of_chk h
  have hk : 1 ≤ o.kind ∧ o.kind ≤ 10 := by
    cases rt_of h with
    | bucket hk => omega
    | key hk => omega
    | list hk => omega
    | part hk => omega
    | parts hk => omega
    | abort hk => omega
  exact ⟨hk.1, hk.2, by have := hS.bu; omega, by have := hS.ke; omega, by have := hS.af; omega, hS.n0, hO.n1, hO.up, hO.id, by have := hS.ps; omega, fun p hp => by have := hS.pe p hp; omega⟩
/-- The reference's Print. -/
theorem printR_any (o : O) (pv dv : Value) (w : World) (hp : RowIn w pv (icells o.ps)) (hd : RowIn w dv (bcells o.da)) (hs : o.bu.size ≤ 1073741824) (hO : OkO o) :
    Calls Tryz.prog 14 #[opV o pv dv] w (PrR o w) := by
  cases hc : chkB o with
  | true => exact printR_yes o pv dv w hp hd (ln_of hO hc) (sm_of_chk hc).da hc
  | false => exact printR_no o pv dv w hp hd hs hc
end Go.Proofs.YtnlooggibopknaaGreatDoor
