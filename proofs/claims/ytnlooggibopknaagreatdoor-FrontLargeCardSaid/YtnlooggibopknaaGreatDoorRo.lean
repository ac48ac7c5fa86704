/- The reference's opened: a head's op and its length, as text. -/
import Derived.Test.YtnlooggibopknaaGreatDoorRk
import Derived.Test.YtnlooggibopknaaGreatDoorW39
namespace Go.Proofs.YtnlooggibopknaaGreatDoor
open Go.RowKit Go.Sort

theorem results_cell_tmp2 {fn : Func} {p u v : Tmp} {ty : TypeId} (h : fn.results = #[.cell p ty, .tmp u, .tmp v]) (tmps : Array Value) (P : Program) (w : World) :
    (results fn tmps).run P w = ((asAddr (tmps.getD p undef)).run P w).andThen fun a w₁ => ((loadVar ty a).run P w₁).andThen fun x w₂ => .ok (.tuple #[x, tmps.getD u undef, tmps.getD v undef]) w₂ := by
  simp only [results, h]
  simp [Sem.run_bind, Result.andThen]
theorem ope_ret {fn : Func} {q u y : Tmp} (hres : fn.results = #[.cell q 26, .tmp u, .tmp y]) {Q : Ending → World → Prop} {tmps : Array Value} {W : World} {p : Nat} {r : O} {pv dv x z : Value} (h4 : tmps.getD q undef = .pointer (some ⟨p, 0, none⟩)) (h5 : tmps.getD u undef = x) (h6 : tmps.getD y undef = z) (hp : W.heap[p]? = some (.cells (pC r pv dv) 26 (0, 0)))
    (hQ : Q (.returned (.tuple #[opV r pv dv, x, z])) W) : bodyPost Tryz.prog fn Q Exit.ret { tmps := tmps, defers := [] } W := by
  refine bodyPost_ret (v := .tuple #[opV r pv dv, x, z]) ?_ rfl hQ
  show (results fn tmps).run Tryz.prog W = _
  rw [results_cell_tmp2 hres, h4, h5, h6]
  have hl := run_loadVar_row (P := Tryz.prog) W p 26 26 (pC r pv dv) (0, 0) _ hp Tryz.underlying26 rfl info26
  simp [asAddr, Result.andThen, hl]
  rfl

def sM1 : ByteArray := ⟨#[32, 71, 76, 67, 47, 49, 13, 10, 105, 100, 58, 32]⟩
def sM2 : ByteArray := ⟨#[13, 10, 108, 101, 110, 103, 116, 104, 58, 32]⟩
def sCC : ByteArray := ⟨#[13, 10, 13, 10]⟩
theorem cutO_ix {a sep x : ByteArray} (h : Lib.index (bl (a ++ (sep ++ x))) (bl sep) = (bl a).length) : cutO (a ++ (sep ++ x)) sep = some (a, x) := by
  have e : Lib.cut (bl (a ++ (sep ++ x))) (bl sep) = (bl a, bl x, true) := by
    unfold Lib.cut
    rw [h, if_pos (by omega), bl_app, bl_app]
    simp
    rw [← bl_len a, ← bl_len sep, ← List.append_assoc, ← List.length_append, List.drop_left]
  unfold cutO
  rw [e]
  simp only [if_true]
  rw [mkB_of, mkB_of]
theorem ix_past {c d e : UInt8} {tl a y : List UInt8} (h : c ∉ a) (hd : e ≠ d) {n : Nat} (hi : Lib.index (e :: y) (c :: d :: tl) = n) : Lib.index (a ++ (c :: e :: y)) (c :: d :: tl) = (a.length + 1 + n : Nat) := by
  have e1 : Lib.index (c :: e :: y) (c :: d :: tl) = (n + 1 : Nat) := by
    rw [Lib.index]
    rw [if_neg (by simp [List.isPrefixOf, Ne.symm hd])]
    rw [hi]
    rw [if_neg (by rw [beq_iff_eq]; omega)]
    omega
  rw [ix_skip a _ h, e1, if_neg (by rw [beq_iff_eq]; omega)]
  omega
theorem line_cut {o : O} (hc : chkB o = true) (hO : OkO o) (x : ByteArray) : cutO (lineB o ++ (sM1 ++ x)) sM1 = some (lineB o, x) := by
  apply cutO_ix
  obtain ⟨t, ht⟩ := tar_slash ⟨o, hc, hO, rfl, rfl, rfl⟩
  have h1 : (32 : UInt8) ∉ bl t := fun h => sp_lt (target_ch hc (c := 32) (by rw [ht, bl_app]; exact List.mem_append_right _ h)) rfl
  have h2 : (32 : UInt8) ∉ bl (methodB o.kind) := fun h => sp_lt (method_ch h) rfl
  have h3 : (32 : UInt8) ∉ 47 :: bl t := fun h => by
    rcases List.mem_cons.1 h with h4 | h4
    · exact absurd h4 (by decide)
    · exact h1 h4
  have hi := ix_at (c := 32) (tl := [71, 76, 67, 47, 49, 13, 10, 105, 100, 58, 32]) (47 :: bl t) (bl x) h3
  rw [List.cons_append] at hi
  have hp := ix_past (c := 32) (d := 71) (e := 47) (tl := [76, 67, 47, 49, 13, 10, 105, 100, 58, 32]) (a := bl (methodB o.kind)) (y := bl t ++ ((32 :: [71, 76, 67, 47, 49, 13, 10, 105, 100, 58, 32]) ++ bl x)) h2 (by decide) hi
  have e : bl (lineB o ++ (sM1 ++ x)) = bl (methodB o.kind) ++ (32 :: 47 :: (bl t ++ ((32 :: [71, 76, 67, 47, 49, 13, 10, 105, 100, 58, 32]) ++ bl x))) := by
    unfold lineB
    rw [ht]
    simp only [bl_app, List.append_assoc]
    rfl
  have e2 : (bl (lineB o)).length = (bl (methodB o.kind)).length + 1 + (47 :: bl t).length := by
    unfold lineB
    rw [ht]
    simp only [bl_app, List.length_append]
    rw [show (bl sSpace).length = 1 from rfl, show (bl sSlash).length = 1 from rfl, List.length_cons]
    omega
  rw [e, e2]
  exact hp
def OpeG (h : ByteArray) (o : O) (l : ByteArray) : Prop := chkB o = true ∧ OkO o ∧ (13 : UInt8) ∉ bl l ∧ h = headB o l
theorem head_m (o : O) (l : ByteArray) : headB o l = lineB o ++ (sM1 ++ (hexB o.id ++ (sM2 ++ (l ++ (sCC ++ ⟨#[]⟩))))) := by
  rw [← head_lit, ba_nilR]
  simp only [ba_assoc]
  rfl
structure OpeA (h : ByteArray) (o : O) (l : ByteArray) : Prop where
  c1 : cutO h sM1 = some (lineB o, hexB o.id ++ (sM2 ++ (l ++ (sCC ++ ⟨#[]⟩))))
  c2 : cutO (lineB o) sSpace = some (methodB o.kind, targetB o)
  c3 : cutO (hexB o.id ++ (sM2 ++ (l ++ (sCC ++ ⟨#[]⟩)))) sM2 = some (hexB o.id, l ++ (sCC ++ ⟨#[]⟩))
  c4 : cutO (l ++ (sCC ++ ⟨#[]⟩)) sCC = some (l, ⟨#[]⟩)
  tar : TarG (methodB o.kind) (targetB o) (bareO o)
  id : unhexL (hexB o.id).data.toList = some o.id
theorem ope_a {h : ByteArray} {o : O} {l : ByteArray} (hG : OpeG h o l) : OpeA h o l := by
  obtain ⟨hc, hO, hl, rfl⟩ := hG
  refine ⟨?_, ?_, ?_, ?_, ⟨o, hc, hO, rfl, rfl, rfl⟩, unhex_hex hO.id⟩
  · rw [head_m]; exact line_cut hc hO _
  · exact cutO_at bSpace _ _ fun e => sp_lt (method_ch e) rfl
  · exact cutO_at (c := 13) (tl := [10, 108, 101, 110, 103, 116, 104, 58, 32]) rfl _ _ (hex_no (by decide))
  · exact cutO_at (c := 13) (tl := [10, 13, 10]) rfl _ _ hl
theorem ope_no1 {h : ByteArray} (h1 : cutO h sM1 = none) (o : O) (l : ByteArray) : ¬ OpeG h o l := fun hG => by rw [(ope_a hG).c1] at h1; cases h1
theorem ope_f {h f r : ByteArray} (h1 : cutO h sM1 = some (f, r)) {o : O} {l : ByteArray} (hG : OpeG h o l) : f = lineB o ∧ r = hexB o.id ++ (sM2 ++ (l ++ (sCC ++ ⟨#[]⟩))) := by
  rw [(ope_a hG).c1] at h1
  simp only [Option.some.injEq, Prod.mk.injEq] at h1
  exact ⟨h1.1.symm, h1.2.symm⟩
theorem ope_no2 {h f r : ByteArray} (h1 : cutO h sM1 = some (f, r)) (h2 : cutO f sSpace = none) (o : O) (l : ByteArray) : ¬ OpeG h o l := fun hG => by
  rw [(ope_f h1 hG).1, (ope_a hG).c2] at h2
  cases h2
theorem ope_m {h f r m t : ByteArray} (h1 : cutO h sM1 = some (f, r)) (h2 : cutO f sSpace = some (m, t)) {o : O} {l : ByteArray} (hG : OpeG h o l) : TarG m t (bareO o) := by
  rw [(ope_f h1 hG).1, (ope_a hG).c2] at h2
  simp only [Option.some.injEq, Prod.mk.injEq] at h2
  rw [← h2.1, ← h2.2]
  exact (ope_a hG).tar
theorem ope_no3 {h f r : ByteArray} (h1 : cutO h sM1 = some (f, r)) (h3 : cutO r sM2 = none) (o : O) (l : ByteArray) : ¬ OpeG h o l := fun hG => by
  rw [(ope_f h1 hG).2, (ope_a hG).c3] at h3
  cases h3
theorem ope_i {h f r i r2 : ByteArray} (h1 : cutO h sM1 = some (f, r)) (h3 : cutO r sM2 = some (i, r2)) {o : O} {l : ByteArray} (hG : OpeG h o l) : i = hexB o.id ∧ r2 = l ++ (sCC ++ ⟨#[]⟩) := by
  rw [(ope_f h1 hG).2, (ope_a hG).c3] at h3
  simp only [Option.some.injEq, Prod.mk.injEq] at h3
  exact ⟨h3.1.symm, h3.2.symm⟩
theorem ope_no4 {h f r i r2 : ByteArray} (h1 : cutO h sM1 = some (f, r)) (h3 : cutO r sM2 = some (i, r2)) (h4 : cutO r2 sCC = none) (o : O) (l : ByteArray) : ¬ OpeG h o l := fun hG => by
  rw [(ope_i h1 h3 hG).2, (ope_a hG).c4] at h4
  cases h4
theorem ope_l {h f r i r2 x r3 : ByteArray} (h1 : cutO h sM1 = some (f, r)) (h3 : cutO r sM2 = some (i, r2)) (h4 : cutO r2 sCC = some (x, r3)) {o : O} {l : ByteArray} (hG : OpeG h o l) : x = l ∧ r3 = ⟨#[]⟩ := by
  rw [(ope_i h1 h3 hG).2, (ope_a hG).c4] at h4
  simp only [Option.some.injEq, Prod.mk.injEq] at h4
  exact ⟨h4.1.symm, h4.2.symm⟩
theorem ope_u {h f r i r2 : ByteArray} (h1 : cutO h sM1 = some (f, r)) (h3 : cutO r sM2 = some (i, r2)) {o : O} {l : ByteArray} (hG : OpeG h o l) : unhexL i.data.toList = some o.id := by
  rw [(ope_i h1 h3 hG).1]; exact (ope_a hG).id
/-- How opened ends. -/
def OpeR (h : ByteArray) (w : World) (e : Ending) (w' : World) : Prop :=
  ∃ (r : O) (len : ByteArray) (pv : Value) (b : Bool), e = .returned (.tuple #[opV r pv (.slice none 0 0), .string len, .bool b]) ∧ RowZ w.heap.size w' pv (icells r.ps) ∧ len.size ≤ h.size ∧ r.da = [] ∧ (b = true → LnO r) ∧ Below w.heap.size w w' ∧ ∀ o l, OpeG h o l → b = true ∧ r = { o with da := [] } ∧ len = l
theorem ope_no {h : ByteArray} {w w' : World} (hb : Below w.heap.size w w') (hn : ∀ o l, ¬ OpeG h o l) : OpeR h w (.returned (.tuple #[opV zeroO (.slice none 0 0) (.slice none 0 0), .string ⟨#[]⟩, .bool false])) w' :=
  ⟨zeroO, _, _, false, rfl, RowZ.nil _ _ _ _, Nat.zero_le _, rfl, (fun e => by cases e), hb, fun o l ho => absurd ho (hn o l)⟩
theorem ln_opn {r : O} {u : Nat} (h : OpnO 65536 r) (hu : u < 2 ^ 64) : LnO (setId r u) :=
  ⟨h.k0, h.k1, Nat.le_trans h.bu (by decide), Nat.le_trans h.ke (by decide), Nat.le_trans h.af (by decide), h.n0, Int.le_trans h.n1 (by decide), h.up, hu, Nat.le_trans h.ps (by decide), fun p hp => ⟨(h.pe p hp).1, Int.le_trans (h.pe p hp).2 (by decide)⟩⟩

set_option maxHeartbeats 16000000 in
set_option maxRecDepth 100000 in
theorem opened_any (h : ByteArray) (w : World) (hs : h.size ≤ 65536) : Calls Tryz.prog 52 #[.string h] w (OpeR h w) := by
  have HU1 : Hid (∀ W, Calls Tryz.prog 85 #[.string h, .string ⟨#[32, 71, 76, 67, 47, 49, 13, 10, 105, 100, 58, 32]⟩] W fun e w' => e = untilE h sM1 ∧ Below W.heap.size W w') := fun W => until_any h sM1 W (by omega) (by decide) (by decide)
  go_enter Tryz.func52, Tryz.ntmps52
  go_upto_region 1 with fail
  obtain ⟨W, hW, hz0, hb⟩ := one_block w #[.int .u64 0, .int .i64 0, .string ⟨#[]⟩, .string ⟨#[]⟩, .string ⟨#[]⟩, .int .i64 0, .int .u64 0, .slice none 0 0, .slice none 0 0]
  rw [← hW]
  clear hW
  have hsz : w.heap.size < W.heap.size := lt_of_at hz0
  go_wp2_with fail
  refine (HU1.out _).mono ?_
  rintro e W1 ⟨he, hb1⟩
  have he := Lib.hid he
  have hz0 : W1.heap[w.heap.size]? = some (.cells #[.int .u64 0, .int .i64 0, .string ⟨#[]⟩, .string ⟨#[]⟩, .string ⟨#[]⟩, .int .i64 0, .int .u64 0, .slice none 0 0, .slice none 0 0] 26 (0, 0)) := (hb1.block _ hsz).trans hz0
  have hb := hb.trans (hb1.mono hb.size)
  have hsz : w.heap.size < W1.heap.size := lt_of_at hz0
  clear hb1 HU1
  cases hc1 : cutO h sM1 with
  | none =>
    obtain rfl := he.out.trans (until_none hc1)
    have HN := Lib.hid (ope_no1 hc1)
    clear hc1 he
    have z0 : W1.cell? ⟨w.heap.size, 0, none⟩ = some (.int .u64 0) := cell_of_row _ _ 0 _ _ _ hz0
    have z1 : W1.cell? ⟨w.heap.size, 1, none⟩ = some (.int .i64 0) := cell_of_row _ _ 1 _ _ _ hz0
    have z2 : W1.cell? ⟨w.heap.size, 2, none⟩ = some (.string ⟨#[]⟩) := cell_of_row _ _ 2 _ _ _ hz0
    have z3 : W1.cell? ⟨w.heap.size, 3, none⟩ = some (.string ⟨#[]⟩) := cell_of_row _ _ 3 _ _ _ hz0
    have z4 : W1.cell? ⟨w.heap.size, 4, none⟩ = some (.string ⟨#[]⟩) := cell_of_row _ _ 4 _ _ _ hz0
    have z5 : W1.cell? ⟨w.heap.size, 5, none⟩ = some (.int .i64 0) := cell_of_row _ _ 5 _ _ _ hz0
    have z6 : W1.cell? ⟨w.heap.size, 6, none⟩ = some (.int .u64 0) := cell_of_row _ _ 6 _ _ _ hz0
    have z7 : W1.cell? ⟨w.heap.size, 7, none⟩ = some (.slice none 0 0) := cell_of_row _ _ 7 _ _ _ hz0
    have z8 : W1.cell? ⟨w.heap.size, 8, none⟩ = some (.slice none 0 0) := cell_of_row _ _ 8 _ _ _ hz0
    have zf : ∀ j, W1.frozen? ⟨w.heap.size, j, none⟩ = false := fun j => frozen_of_row W1 (w.heap.size) j _ _ hz0
    go_wp2
    all_goals exact ope_ret (W := setOp W1 w.heap.size zeroO (.slice none 0 0) (.slice none 0 0)) Tryz.results52 rfl rfl rfl (setOp_same hz0 rfl) (ope_no (setOp_low hb (Nat.le_refl _) _ _ _) HN.out)
  | some q1 =>
    obtain ⟨f, rs⟩ := q1
    obtain rfl := he.out.trans (until_some hc1)
    have hzz := cutO_size hc1
    have hzf : f.size ≤ 65536 := Nat.le_trans hzz.1 hs
    have hzr : rs.size ≤ 65536 := Nat.le_trans hzz.2 hs
    have HZR := Lib.hid hzz.2
    have HC1 := Lib.hid hc1
    clear hc1 he hzz
    have HU2 : Hid (∀ W, Calls Tryz.prog 85 #[.string f, .string ⟨#[32]⟩] W fun e w' => e = untilE f sSpace ∧ Below W.heap.size W w') := fun W => until_any f sSpace W (by omega) (by decide) (by decide)
    go_wp2_with fail
    refine (HU2.out _).mono ?_
    rintro e W2 ⟨he, hb1⟩
    have he := Lib.hid he
    have hz0 : W2.heap[w.heap.size]? = some (.cells #[.int .u64 0, .int .i64 0, .string ⟨#[]⟩, .string ⟨#[]⟩, .string ⟨#[]⟩, .int .i64 0, .int .u64 0, .slice none 0 0, .slice none 0 0] 26 (0, 0)) := (hb1.block _ hsz).trans hz0
    have hb := hb.trans (hb1.mono hb.size)
    have hsz : w.heap.size < W2.heap.size := lt_of_at hz0
    clear hb1 HU2
    cases hc2 : cutO f sSpace with
    | none =>
      obtain rfl := he.out.trans (until_none hc2)
      have HN := Lib.hid (ope_no2 HC1.out hc2)
      clear hc2 he
      have z0 : W2.cell? ⟨w.heap.size, 0, none⟩ = some (.int .u64 0) := cell_of_row _ _ 0 _ _ _ hz0
      have z1 : W2.cell? ⟨w.heap.size, 1, none⟩ = some (.int .i64 0) := cell_of_row _ _ 1 _ _ _ hz0
      have z2 : W2.cell? ⟨w.heap.size, 2, none⟩ = some (.string ⟨#[]⟩) := cell_of_row _ _ 2 _ _ _ hz0
      have z3 : W2.cell? ⟨w.heap.size, 3, none⟩ = some (.string ⟨#[]⟩) := cell_of_row _ _ 3 _ _ _ hz0
      have z4 : W2.cell? ⟨w.heap.size, 4, none⟩ = some (.string ⟨#[]⟩) := cell_of_row _ _ 4 _ _ _ hz0
      have z5 : W2.cell? ⟨w.heap.size, 5, none⟩ = some (.int .i64 0) := cell_of_row _ _ 5 _ _ _ hz0
      have z6 : W2.cell? ⟨w.heap.size, 6, none⟩ = some (.int .u64 0) := cell_of_row _ _ 6 _ _ _ hz0
      have z7 : W2.cell? ⟨w.heap.size, 7, none⟩ = some (.slice none 0 0) := cell_of_row _ _ 7 _ _ _ hz0
      have z8 : W2.cell? ⟨w.heap.size, 8, none⟩ = some (.slice none 0 0) := cell_of_row _ _ 8 _ _ _ hz0
      have zf : ∀ j, W2.frozen? ⟨w.heap.size, j, none⟩ = false := fun j => frozen_of_row W2 (w.heap.size) j _ _ hz0
      go_wp2
      all_goals exact ope_ret (W := setOp W2 w.heap.size zeroO (.slice none 0 0) (.slice none 0 0)) Tryz.results52 rfl rfl rfl (setOp_same hz0 rfl) (ope_no (setOp_low hb (Nat.le_refl _) _ _ _) HN.out)
    | some q2 =>
      obtain ⟨m, t⟩ := q2
      obtain rfl := he.out.trans (until_some hc2)
      have hzt : t.size ≤ 65536 := Nat.le_trans (cutO_size hc2).2 hzf
      have HTM : Hid (∀ o l, OpeG h o l → TarG m t (bareO o)) := fun o l ho => ope_m HC1.out hc2 ho
      have HC : Hid (∀ W, Calls Tryz.prog 86 #[.string m, .string t] W (TgtR (TarG m t) 65536 W)) := fun W => targetR_any m t W hzt
      have HU3 : Hid (∀ W, Calls Tryz.prog 85 #[.string rs, .string ⟨#[13, 10, 108, 101, 110, 103, 116, 104, 58, 32]⟩] W fun e w' => e = untilE rs sM2 ∧ Below W.heap.size W w') := fun W => until_any rs sM2 W (by omega) (by decide) (by decide)
      clear hc2 he hzf hzt
      go_wp2_with fail
      refine (HC.out _).mono ?_
      rintro e W3 ⟨r, pv, b, rfl, hrow, hda, hopn, hb1, htell⟩
      have hsz0 := hsz
      have hz0 : W3.heap[w.heap.size]? = some (.cells #[.int .u64 0, .int .i64 0, .string ⟨#[]⟩, .string ⟨#[]⟩, .string ⟨#[]⟩, .int .i64 0, .int .u64 0, .slice none 0 0, .slice none 0 0] 26 (0, 0)) := (hb1.block _ hsz).trans hz0
      have hb := hb.trans (hb1.mono hb.size)
      have hsz : w.heap.size < W3.heap.size := lt_of_at hz0
      have HO := Lib.hid hopn
      have HL := Lib.hid htell
      have HDA := Lib.hid hda
      obtain ⟨va, vc, hve⟩ := hrow.c.row.form
      rw [show (icells r.ps).length = r.ps.length by simp [icells]] at hve
      subst hve
      have HR := Lib.hid (hrow.x (pb := w.heap.size) hsz0)
      clear hopn htell hb1 hrow hda hsz0 HC
      go_upto_region 8 with fail
      have hs3 := hsz
      obtain ⟨W4, hW4, hk1, hz4, hb4⟩ := nb_block w W3 #[.int .u64 (r.id : Int), .int .i64 r.kind, .string r.bu, .string r.ke, .string r.af, .int .i64 r.n, .int .u64 (r.up : Int), .slice va r.ps.length vc, .slice none 0 0] hz0 hb
      have hbq : Below W3.heap.size W3 W4 := by rw [hW4]; exact (Below.refl _ _).alloc (Nat.le_refl _) _
      rw [← hW4]
      clear hW4 hz0 hb hsz
      have hz0 := hz4
      have hb := hb4
      have hsz : w.heap.size < W4.heap.size := lt_of_at hz0
      have hsq : W3.heap.size < W4.heap.size := lt_of_at hk1
      clear hz4 hb4
      go_wp2_with fail
      refine (HU3.out _).mono ?_
      rintro e W5 ⟨he, hb1⟩
      have he := Lib.hid he
      have hz0 : W5.heap[w.heap.size]? = some (.cells #[.int .u64 0, .int .i64 0, .string ⟨#[]⟩, .string ⟨#[]⟩, .string ⟨#[]⟩, .int .i64 0, .int .u64 0, .slice none 0 0, .slice none 0 0] 26 (0, 0)) := (hb1.block _ hsz).trans hz0
      have hb := hb.trans (hb1.mono hb.size)
      have hsz : w.heap.size < W5.heap.size := lt_of_at hz0
      have hk1 : W5.heap[W3.heap.size]? = some (.cells #[.int .u64 (r.id : Int), .int .i64 r.kind, .string r.bu, .string r.ke, .string r.af, .int .i64 r.n, .int .u64 (r.up : Int), .slice va r.ps.length vc, .slice none 0 0] 26 (0, 0)) := (hb1.block _ hsq).trans hk1
      have hbq := hbq.trans (hb1.mono hbq.size)
      have hsq : W3.heap.size < W5.heap.size := lt_of_at hk1
      clear hb1 HU3
      cases hc3 : cutO rs sM2 with
      | none =>
        obtain rfl := he.out.trans (until_none hc3)
        have HN := Lib.hid (ope_no3 HC1.out hc3)
        clear hc3 he hk1 hbq hsq
        cases b with
        | false =>
          have z0 : W5.cell? ⟨w.heap.size, 0, none⟩ = some (.int .u64 0) := cell_of_row _ _ 0 _ _ _ hz0
          have z1 : W5.cell? ⟨w.heap.size, 1, none⟩ = some (.int .i64 0) := cell_of_row _ _ 1 _ _ _ hz0
          have z2 : W5.cell? ⟨w.heap.size, 2, none⟩ = some (.string ⟨#[]⟩) := cell_of_row _ _ 2 _ _ _ hz0
          have z3 : W5.cell? ⟨w.heap.size, 3, none⟩ = some (.string ⟨#[]⟩) := cell_of_row _ _ 3 _ _ _ hz0
          have z4 : W5.cell? ⟨w.heap.size, 4, none⟩ = some (.string ⟨#[]⟩) := cell_of_row _ _ 4 _ _ _ hz0
          have z5 : W5.cell? ⟨w.heap.size, 5, none⟩ = some (.int .i64 0) := cell_of_row _ _ 5 _ _ _ hz0
          have z6 : W5.cell? ⟨w.heap.size, 6, none⟩ = some (.int .u64 0) := cell_of_row _ _ 6 _ _ _ hz0
          have z7 : W5.cell? ⟨w.heap.size, 7, none⟩ = some (.slice none 0 0) := cell_of_row _ _ 7 _ _ _ hz0
          have z8 : W5.cell? ⟨w.heap.size, 8, none⟩ = some (.slice none 0 0) := cell_of_row _ _ 8 _ _ _ hz0
          have zf : ∀ j, W5.frozen? ⟨w.heap.size, j, none⟩ = false := fun j => frozen_of_row W5 (w.heap.size) j _ _ hz0
          go_wp2
          all_goals exact ope_ret (W := setOp W5 w.heap.size zeroO (.slice none 0 0) (.slice none 0 0)) Tryz.results52 rfl rfl rfl (setOp_same hz0 rfl) (ope_no (setOp_low hb (Nat.le_refl _) _ _ _) HN.out)
        | true =>
          have z0 : W5.cell? ⟨w.heap.size, 0, none⟩ = some (.int .u64 0) := cell_of_row _ _ 0 _ _ _ hz0
          have z1 : W5.cell? ⟨w.heap.size, 1, none⟩ = some (.int .i64 0) := cell_of_row _ _ 1 _ _ _ hz0
          have z2 : W5.cell? ⟨w.heap.size, 2, none⟩ = some (.string ⟨#[]⟩) := cell_of_row _ _ 2 _ _ _ hz0
          have z3 : W5.cell? ⟨w.heap.size, 3, none⟩ = some (.string ⟨#[]⟩) := cell_of_row _ _ 3 _ _ _ hz0
          have z4 : W5.cell? ⟨w.heap.size, 4, none⟩ = some (.string ⟨#[]⟩) := cell_of_row _ _ 4 _ _ _ hz0
          have z5 : W5.cell? ⟨w.heap.size, 5, none⟩ = some (.int .i64 0) := cell_of_row _ _ 5 _ _ _ hz0
          have z6 : W5.cell? ⟨w.heap.size, 6, none⟩ = some (.int .u64 0) := cell_of_row _ _ 6 _ _ _ hz0
          have z7 : W5.cell? ⟨w.heap.size, 7, none⟩ = some (.slice none 0 0) := cell_of_row _ _ 7 _ _ _ hz0
          have z8 : W5.cell? ⟨w.heap.size, 8, none⟩ = some (.slice none 0 0) := cell_of_row _ _ 8 _ _ _ hz0
          have zf : ∀ j, W5.frozen? ⟨w.heap.size, j, none⟩ = false := fun j => frozen_of_row W5 (w.heap.size) j _ _ hz0
          go_wp2
          all_goals exact ope_ret (W := setOp W5 w.heap.size zeroO (.slice none 0 0) (.slice none 0 0)) Tryz.results52 rfl rfl rfl (setOp_same hz0 rfl) (ope_no (setOp_low hb (Nat.le_refl _) _ _ _) HN.out)
      | some q3 =>
        obtain ⟨i, r2⟩ := q3
        obtain rfl := he.out.trans (until_some hc3)
        have hzz := cutO_size hc3
        have hz2 : r2.size ≤ 65536 := Nat.le_trans hzz.2 hzr
        have HZ2 := Lib.hid hzz.2
        have HC3 := Lib.hid hc3
        clear hc3 he hzz
        cases b with
        | false =>
          have HN : Hid (∀ o l, ¬ OpeG h o l) := fun o l ho => by have := (HL.out _ (HTM.out o l ho)).1; cases this
          clear hk1 hbq hsq
          have z0 : W5.cell? ⟨w.heap.size, 0, none⟩ = some (.int .u64 0) := cell_of_row _ _ 0 _ _ _ hz0
          have z1 : W5.cell? ⟨w.heap.size, 1, none⟩ = some (.int .i64 0) := cell_of_row _ _ 1 _ _ _ hz0
          have z2 : W5.cell? ⟨w.heap.size, 2, none⟩ = some (.string ⟨#[]⟩) := cell_of_row _ _ 2 _ _ _ hz0
          have z3 : W5.cell? ⟨w.heap.size, 3, none⟩ = some (.string ⟨#[]⟩) := cell_of_row _ _ 3 _ _ _ hz0
          have z4 : W5.cell? ⟨w.heap.size, 4, none⟩ = some (.string ⟨#[]⟩) := cell_of_row _ _ 4 _ _ _ hz0
          have z5 : W5.cell? ⟨w.heap.size, 5, none⟩ = some (.int .i64 0) := cell_of_row _ _ 5 _ _ _ hz0
          have z6 : W5.cell? ⟨w.heap.size, 6, none⟩ = some (.int .u64 0) := cell_of_row _ _ 6 _ _ _ hz0
          have z7 : W5.cell? ⟨w.heap.size, 7, none⟩ = some (.slice none 0 0) := cell_of_row _ _ 7 _ _ _ hz0
          have z8 : W5.cell? ⟨w.heap.size, 8, none⟩ = some (.slice none 0 0) := cell_of_row _ _ 8 _ _ _ hz0
          have zf : ∀ j, W5.frozen? ⟨w.heap.size, j, none⟩ = false := fun j => frozen_of_row W5 (w.heap.size) j _ _ hz0
          go_wp2
          all_goals exact ope_ret (W := setOp W5 w.heap.size zeroO (.slice none 0 0) (.slice none 0 0)) Tryz.results52 rfl rfl rfl (setOp_same hz0 rfl) (ope_no (setOp_low hb (Nat.le_refl _) _ _ _) HN.out)
        | true =>
          have HU4 : Hid (∀ W, Calls Tryz.prog 85 #[.string r2, .string ⟨#[13, 10, 13, 10]⟩] W fun e w' => e = untilE r2 sCC ∧ Below W.heap.size W w') := fun W => until_any r2 sCC W (by omega) (by decide) (by decide)
          have hopn := HO.out rfl
          have HOP := Lib.hid hopn
          clear hopn HO
          go_wp2_with fail
          refine (HU4.out _).mono ?_
          rintro e W6 ⟨he, hb1⟩
          have he := Lib.hid he
          have hz0 : W6.heap[w.heap.size]? = some (.cells #[.int .u64 0, .int .i64 0, .string ⟨#[]⟩, .string ⟨#[]⟩, .string ⟨#[]⟩, .int .i64 0, .int .u64 0, .slice none 0 0, .slice none 0 0] 26 (0, 0)) := (hb1.block _ hsz).trans hz0
          have hb := hb.trans (hb1.mono hb.size)
          have hsz : w.heap.size < W6.heap.size := lt_of_at hz0
          have hk1 : W6.heap[W3.heap.size]? = some (.cells #[.int .u64 (r.id : Int), .int .i64 r.kind, .string r.bu, .string r.ke, .string r.af, .int .i64 r.n, .int .u64 (r.up : Int), .slice va r.ps.length vc, .slice none 0 0] 26 (0, 0)) := (hb1.block _ hsq).trans hk1
          have hbq := hbq.trans (hb1.mono hbq.size)
          have hsq : W3.heap.size < W6.heap.size := lt_of_at hk1
          clear hb1 HU4
          cases hc4 : cutO r2 sCC with
          | none =>
            obtain rfl := he.out.trans (until_none hc4)
            have HN := Lib.hid (ope_no4 HC1.out HC3.out hc4)
            clear hc4 he hk1 hbq hsq
            have z0 : W6.cell? ⟨w.heap.size, 0, none⟩ = some (.int .u64 0) := cell_of_row _ _ 0 _ _ _ hz0
            have z1 : W6.cell? ⟨w.heap.size, 1, none⟩ = some (.int .i64 0) := cell_of_row _ _ 1 _ _ _ hz0
            have z2 : W6.cell? ⟨w.heap.size, 2, none⟩ = some (.string ⟨#[]⟩) := cell_of_row _ _ 2 _ _ _ hz0
            have z3 : W6.cell? ⟨w.heap.size, 3, none⟩ = some (.string ⟨#[]⟩) := cell_of_row _ _ 3 _ _ _ hz0
            have z4 : W6.cell? ⟨w.heap.size, 4, none⟩ = some (.string ⟨#[]⟩) := cell_of_row _ _ 4 _ _ _ hz0
            have z5 : W6.cell? ⟨w.heap.size, 5, none⟩ = some (.int .i64 0) := cell_of_row _ _ 5 _ _ _ hz0
            have z6 : W6.cell? ⟨w.heap.size, 6, none⟩ = some (.int .u64 0) := cell_of_row _ _ 6 _ _ _ hz0
            have z7 : W6.cell? ⟨w.heap.size, 7, none⟩ = some (.slice none 0 0) := cell_of_row _ _ 7 _ _ _ hz0
            have z8 : W6.cell? ⟨w.heap.size, 8, none⟩ = some (.slice none 0 0) := cell_of_row _ _ 8 _ _ _ hz0
            have zf : ∀ j, W6.frozen? ⟨w.heap.size, j, none⟩ = false := fun j => frozen_of_row W6 (w.heap.size) j _ _ hz0
            go_wp2
            all_goals exact ope_ret (W := setOp W6 w.heap.size zeroO (.slice none 0 0) (.slice none 0 0)) Tryz.results52 rfl rfl rfl (setOp_same hz0 rfl) (ope_no (setOp_low hb (Nat.le_refl _) _ _ _) HN.out)
          | some q4 =>
            obtain ⟨x, r3⟩ := q4
            obtain rfl := he.out.trans (until_some hc4)
            have HLZ : Hid (x.size ≤ h.size) := Nat.le_trans (cutO_size hc4).1 (Nat.le_trans HZ2.out HZR.out)
            have HTL : Hid (∀ o l, OpeG h o l → x = l ∧ r3 = ⟨#[]⟩) := fun o l ho => ope_l HC1.out HC3.out hc4 ho
            have HTU : Hid (∀ o l, OpeG h o l → unhexL i.data.toList = some o.id) := fun o l ho => ope_u HC1.out HC3.out ho
            clear hc4 he HZ2 HZR hzr hz2
            by_cases hr3 : r3 = ⟨#[]⟩
            · subst hr3
              have HX := Lib.hid (hexed_any i)
              go_wp2_with fail
              refine (HX.out _).mono ?_
              rintro e w1 ⟨he, rfl⟩
              have he := Lib.hid he
              cases hu : unhexL i.data.toList with
              | none =>
                obtain rfl := he.out.trans (unhexE_none hu).symm
                have HN : Hid (∀ o l, ¬ OpeG h o l) := fun o l ho => by have := HTU.out o l ho; rw [hu] at this; cases this
                clear he hu
                have k0 : W6.cell? ⟨W3.heap.size, 0, none⟩ = some (.int .u64 (r.id : Int)) := cell_of_row _ _ 0 _ _ _ hk1
                have k1 : W6.cell? ⟨W3.heap.size, 1, none⟩ = some (.int .i64 r.kind) := cell_of_row _ _ 1 _ _ _ hk1
                have k2 : W6.cell? ⟨W3.heap.size, 2, none⟩ = some (.string r.bu) := cell_of_row _ _ 2 _ _ _ hk1
                have k3 : W6.cell? ⟨W3.heap.size, 3, none⟩ = some (.string r.ke) := cell_of_row _ _ 3 _ _ _ hk1
                have k4 : W6.cell? ⟨W3.heap.size, 4, none⟩ = some (.string r.af) := cell_of_row _ _ 4 _ _ _ hk1
                have k5 : W6.cell? ⟨W3.heap.size, 5, none⟩ = some (.int .i64 r.n) := cell_of_row _ _ 5 _ _ _ hk1
                have k6 : W6.cell? ⟨W3.heap.size, 6, none⟩ = some (.int .u64 (r.up : Int)) := cell_of_row _ _ 6 _ _ _ hk1
                have k7 : W6.cell? ⟨W3.heap.size, 7, none⟩ = some (.slice va r.ps.length vc) := cell_of_row _ _ 7 _ _ _ hk1
                have k8 : W6.cell? ⟨W3.heap.size, 8, none⟩ = some (.slice none 0 0) := cell_of_row _ _ 8 _ _ _ hk1
                have kf : ∀ j, W6.frozen? ⟨W3.heap.size, j, none⟩ = false := fun j => frozen_of_row W6 (W3.heap.size) j _ _ hk1
                go_upto_region 15 with fail
                clear k0 k1 k2 k3 k4 k5 k6 k7 k8 kf
                have hk2 := heap_setCell_same W6 W3.heap.size 0 _ _ (.int .u64 0) hk1
                have hz2 := (Below.heap_setCell W6 ⟨W3.heap.size, 0, none⟩ (.int .u64 0) w.heap.size (by show w.heap.size ≠ W3.heap.size; omega)).trans hz0
                have hb3 := hb.setCell (p := ⟨W3.heap.size, 0, none⟩) (Nat.le_of_lt hs3) (.int .u64 0)
                have hq3 := hbq.setCell (p := ⟨W3.heap.size, 0, none⟩) (Nat.le_refl _) (.int .u64 0)
                have hs6 : W3.heap.size < (W6.setCell ⟨W3.heap.size, 0, none⟩ (.int .u64 0)).heap.size := lt_of_at hk2
                clear hk1 hz0 hb hbq hsz hsq
                generalize W6.setCell ⟨W3.heap.size, 0, none⟩ (.int .u64 0) = W7 at *
                have hz0 := hz2
                have hk1 : W7.heap[W3.heap.size]? = some (.cells #[.int .u64 0, .int .i64 r.kind, .string r.bu, .string r.ke, .string r.af, .int .i64 r.n, .int .u64 (r.up : Int), .slice va r.ps.length vc, .slice none 0 0] 26 (0, 0)) := hk2
                have hb := hb3
                have hsz : w.heap.size < W7.heap.size := lt_of_at hz0
                clear hz2 hk2 hb3
                have HRW := Lib.hid (HR.out.below hq3)
                clear hq3
                have z0 : W7.cell? ⟨w.heap.size, 0, none⟩ = some (.int .u64 0) := cell_of_row _ _ 0 _ _ _ hz0
                have z1 : W7.cell? ⟨w.heap.size, 1, none⟩ = some (.int .i64 0) := cell_of_row _ _ 1 _ _ _ hz0
                have z2 : W7.cell? ⟨w.heap.size, 2, none⟩ = some (.string ⟨#[]⟩) := cell_of_row _ _ 2 _ _ _ hz0
                have z3 : W7.cell? ⟨w.heap.size, 3, none⟩ = some (.string ⟨#[]⟩) := cell_of_row _ _ 3 _ _ _ hz0
                have z4 : W7.cell? ⟨w.heap.size, 4, none⟩ = some (.string ⟨#[]⟩) := cell_of_row _ _ 4 _ _ _ hz0
                have z5 : W7.cell? ⟨w.heap.size, 5, none⟩ = some (.int .i64 0) := cell_of_row _ _ 5 _ _ _ hz0
                have z6 : W7.cell? ⟨w.heap.size, 6, none⟩ = some (.int .u64 0) := cell_of_row _ _ 6 _ _ _ hz0
                have z7 : W7.cell? ⟨w.heap.size, 7, none⟩ = some (.slice none 0 0) := cell_of_row _ _ 7 _ _ _ hz0
                have z8 : W7.cell? ⟨w.heap.size, 8, none⟩ = some (.slice none 0 0) := cell_of_row _ _ 8 _ _ _ hz0
                have zf : ∀ j, W7.frozen? ⟨w.heap.size, j, none⟩ = false := fun j => frozen_of_row W7 (w.heap.size) j _ _ hz0
                have k0 : W7.cell? ⟨W3.heap.size, 0, none⟩ = some (.int .u64 0) := cell_of_row _ _ 0 _ _ _ hk1
                have k1 : W7.cell? ⟨W3.heap.size, 1, none⟩ = some (.int .i64 r.kind) := cell_of_row _ _ 1 _ _ _ hk1
                have k2 : W7.cell? ⟨W3.heap.size, 2, none⟩ = some (.string r.bu) := cell_of_row _ _ 2 _ _ _ hk1
                have k3 : W7.cell? ⟨W3.heap.size, 3, none⟩ = some (.string r.ke) := cell_of_row _ _ 3 _ _ _ hk1
                have k4 : W7.cell? ⟨W3.heap.size, 4, none⟩ = some (.string r.af) := cell_of_row _ _ 4 _ _ _ hk1
                have k5 : W7.cell? ⟨W3.heap.size, 5, none⟩ = some (.int .i64 r.n) := cell_of_row _ _ 5 _ _ _ hk1
                have k6 : W7.cell? ⟨W3.heap.size, 6, none⟩ = some (.int .u64 (r.up : Int)) := cell_of_row _ _ 6 _ _ _ hk1
                have k7 : W7.cell? ⟨W3.heap.size, 7, none⟩ = some (.slice va r.ps.length vc) := cell_of_row _ _ 7 _ _ _ hk1
                have k8 : W7.cell? ⟨W3.heap.size, 8, none⟩ = some (.slice none 0 0) := cell_of_row _ _ 8 _ _ _ hk1
                have kf : ∀ j, W7.frozen? ⟨W3.heap.size, j, none⟩ = false := fun j => frozen_of_row W7 (W3.heap.size) j _ _ hk1
                go_wp2
                exact ope_ret (W := setOp W7 w.heap.size (setId r 0) (.slice va r.ps.length vc) (.slice none 0 0)) Tryz.results52 rfl rfl rfl (setOp_same hz0 rfl) ⟨setId r 0, x, .slice va r.ps.length vc, false, rfl, (HRW.out.setOp (Nat.le_refl _) _ _ _).z (Nat.le_succ _), HLZ.out, HDA.out, (fun e => by cases e), setOp_low hb (Nat.le_refl _) _ _ _, fun o l ho => absurd ho (HN.out o l)⟩
              | some u =>
                obtain rfl := he.out.trans (unhexE_some hu).symm
                have HLN : Hid (LnO (setId r u)) := ln_opn HOP.out (unhex_lt hu)
                have HT : Hid (∀ o l, OpeG h o l → setId r u = { o with da := [] } ∧ x = l) := fun o l ho => ⟨by
                  have h1 := HTU.out o l ho
                  rw [hu] at h1
                  rw [(HL.out _ (HTM.out o l ho)).2, Option.some.inj h1]
                  rfl, (HTL.out o l ho).1⟩
                clear he hu
                have k0 : W6.cell? ⟨W3.heap.size, 0, none⟩ = some (.int .u64 (r.id : Int)) := cell_of_row _ _ 0 _ _ _ hk1
                have k1 : W6.cell? ⟨W3.heap.size, 1, none⟩ = some (.int .i64 r.kind) := cell_of_row _ _ 1 _ _ _ hk1
                have k2 : W6.cell? ⟨W3.heap.size, 2, none⟩ = some (.string r.bu) := cell_of_row _ _ 2 _ _ _ hk1
                have k3 : W6.cell? ⟨W3.heap.size, 3, none⟩ = some (.string r.ke) := cell_of_row _ _ 3 _ _ _ hk1
                have k4 : W6.cell? ⟨W3.heap.size, 4, none⟩ = some (.string r.af) := cell_of_row _ _ 4 _ _ _ hk1
                have k5 : W6.cell? ⟨W3.heap.size, 5, none⟩ = some (.int .i64 r.n) := cell_of_row _ _ 5 _ _ _ hk1
                have k6 : W6.cell? ⟨W3.heap.size, 6, none⟩ = some (.int .u64 (r.up : Int)) := cell_of_row _ _ 6 _ _ _ hk1
                have k7 : W6.cell? ⟨W3.heap.size, 7, none⟩ = some (.slice va r.ps.length vc) := cell_of_row _ _ 7 _ _ _ hk1
                have k8 : W6.cell? ⟨W3.heap.size, 8, none⟩ = some (.slice none 0 0) := cell_of_row _ _ 8 _ _ _ hk1
                have kf : ∀ j, W6.frozen? ⟨W3.heap.size, j, none⟩ = false := fun j => frozen_of_row W6 (W3.heap.size) j _ _ hk1
                go_upto_region 15 with fail
                clear k0 k1 k2 k3 k4 k5 k6 k7 k8 kf
                have hk2 := heap_setCell_same W6 W3.heap.size 0 _ _ (.int .u64 (u : Int)) hk1
                have hz2 := (Below.heap_setCell W6 ⟨W3.heap.size, 0, none⟩ (.int .u64 (u : Int)) w.heap.size (by show w.heap.size ≠ W3.heap.size; omega)).trans hz0
                have hb3 := hb.setCell (p := ⟨W3.heap.size, 0, none⟩) (Nat.le_of_lt hs3) (.int .u64 (u : Int))
                have hq3 := hbq.setCell (p := ⟨W3.heap.size, 0, none⟩) (Nat.le_refl _) (.int .u64 (u : Int))
                have hs6 : W3.heap.size < (W6.setCell ⟨W3.heap.size, 0, none⟩ (.int .u64 (u : Int))).heap.size := lt_of_at hk2
                clear hk1 hz0 hb hbq hsz hsq
                generalize W6.setCell ⟨W3.heap.size, 0, none⟩ (.int .u64 (u : Int)) = W7 at *
                have hz0 := hz2
                have hk1 : W7.heap[W3.heap.size]? = some (.cells #[.int .u64 (u : Int), .int .i64 r.kind, .string r.bu, .string r.ke, .string r.af, .int .i64 r.n, .int .u64 (r.up : Int), .slice va r.ps.length vc, .slice none 0 0] 26 (0, 0)) := hk2
                have hb := hb3
                have hsz : w.heap.size < W7.heap.size := lt_of_at hz0
                clear hz2 hk2 hb3
                have HRW := Lib.hid (HR.out.below hq3)
                clear hq3
                have z0 : W7.cell? ⟨w.heap.size, 0, none⟩ = some (.int .u64 0) := cell_of_row _ _ 0 _ _ _ hz0
                have z1 : W7.cell? ⟨w.heap.size, 1, none⟩ = some (.int .i64 0) := cell_of_row _ _ 1 _ _ _ hz0
                have z2 : W7.cell? ⟨w.heap.size, 2, none⟩ = some (.string ⟨#[]⟩) := cell_of_row _ _ 2 _ _ _ hz0
                have z3 : W7.cell? ⟨w.heap.size, 3, none⟩ = some (.string ⟨#[]⟩) := cell_of_row _ _ 3 _ _ _ hz0
                have z4 : W7.cell? ⟨w.heap.size, 4, none⟩ = some (.string ⟨#[]⟩) := cell_of_row _ _ 4 _ _ _ hz0
                have z5 : W7.cell? ⟨w.heap.size, 5, none⟩ = some (.int .i64 0) := cell_of_row _ _ 5 _ _ _ hz0
                have z6 : W7.cell? ⟨w.heap.size, 6, none⟩ = some (.int .u64 0) := cell_of_row _ _ 6 _ _ _ hz0
                have z7 : W7.cell? ⟨w.heap.size, 7, none⟩ = some (.slice none 0 0) := cell_of_row _ _ 7 _ _ _ hz0
                have z8 : W7.cell? ⟨w.heap.size, 8, none⟩ = some (.slice none 0 0) := cell_of_row _ _ 8 _ _ _ hz0
                have zf : ∀ j, W7.frozen? ⟨w.heap.size, j, none⟩ = false := fun j => frozen_of_row W7 (w.heap.size) j _ _ hz0
                have k0 : W7.cell? ⟨W3.heap.size, 0, none⟩ = some (.int .u64 (u : Int)) := cell_of_row _ _ 0 _ _ _ hk1
                have k1 : W7.cell? ⟨W3.heap.size, 1, none⟩ = some (.int .i64 r.kind) := cell_of_row _ _ 1 _ _ _ hk1
                have k2 : W7.cell? ⟨W3.heap.size, 2, none⟩ = some (.string r.bu) := cell_of_row _ _ 2 _ _ _ hk1
                have k3 : W7.cell? ⟨W3.heap.size, 3, none⟩ = some (.string r.ke) := cell_of_row _ _ 3 _ _ _ hk1
                have k4 : W7.cell? ⟨W3.heap.size, 4, none⟩ = some (.string r.af) := cell_of_row _ _ 4 _ _ _ hk1
                have k5 : W7.cell? ⟨W3.heap.size, 5, none⟩ = some (.int .i64 r.n) := cell_of_row _ _ 5 _ _ _ hk1
                have k6 : W7.cell? ⟨W3.heap.size, 6, none⟩ = some (.int .u64 (r.up : Int)) := cell_of_row _ _ 6 _ _ _ hk1
                have k7 : W7.cell? ⟨W3.heap.size, 7, none⟩ = some (.slice va r.ps.length vc) := cell_of_row _ _ 7 _ _ _ hk1
                have k8 : W7.cell? ⟨W3.heap.size, 8, none⟩ = some (.slice none 0 0) := cell_of_row _ _ 8 _ _ _ hk1
                have kf : ∀ j, W7.frozen? ⟨W3.heap.size, j, none⟩ = false := fun j => frozen_of_row W7 (W3.heap.size) j _ _ hk1
                go_wp2
                exact ope_ret (W := setOp W7 w.heap.size (setId r u) (.slice va r.ps.length vc) (.slice none 0 0)) Tryz.results52 rfl rfl rfl (setOp_same hz0 rfl) ⟨setId r u, x, .slice va r.ps.length vc, true, rfl, (HRW.out.setOp (Nat.le_refl _) _ _ _).z (Nat.le_succ _), HLZ.out, HDA.out, (fun _ => HLN.out), setOp_low hb (Nat.le_refl _) _ _ _, fun o l ho => ⟨rfl, HT.out o l ho⟩⟩
            · have q3 : (r3.toList == ([] : List UInt8)) = false := by rw [q_of]; exact decide_eq_false hr3
              have HN : Hid (∀ o l, ¬ OpeG h o l) := fun o l ho => hr3 (HTL.out o l ho).2
              clear hr3 hk1 hbq hsq
              have z0 : W6.cell? ⟨w.heap.size, 0, none⟩ = some (.int .u64 0) := cell_of_row _ _ 0 _ _ _ hz0
              have z1 : W6.cell? ⟨w.heap.size, 1, none⟩ = some (.int .i64 0) := cell_of_row _ _ 1 _ _ _ hz0
              have z2 : W6.cell? ⟨w.heap.size, 2, none⟩ = some (.string ⟨#[]⟩) := cell_of_row _ _ 2 _ _ _ hz0
              have z3 : W6.cell? ⟨w.heap.size, 3, none⟩ = some (.string ⟨#[]⟩) := cell_of_row _ _ 3 _ _ _ hz0
              have z4 : W6.cell? ⟨w.heap.size, 4, none⟩ = some (.string ⟨#[]⟩) := cell_of_row _ _ 4 _ _ _ hz0
              have z5 : W6.cell? ⟨w.heap.size, 5, none⟩ = some (.int .i64 0) := cell_of_row _ _ 5 _ _ _ hz0
              have z6 : W6.cell? ⟨w.heap.size, 6, none⟩ = some (.int .u64 0) := cell_of_row _ _ 6 _ _ _ hz0
              have z7 : W6.cell? ⟨w.heap.size, 7, none⟩ = some (.slice none 0 0) := cell_of_row _ _ 7 _ _ _ hz0
              have z8 : W6.cell? ⟨w.heap.size, 8, none⟩ = some (.slice none 0 0) := cell_of_row _ _ 8 _ _ _ hz0
              have zf : ∀ j, W6.frozen? ⟨w.heap.size, j, none⟩ = false := fun j => frozen_of_row W6 (w.heap.size) j _ _ hz0
              go_wp2
              all_goals exact ope_ret (W := setOp W6 w.heap.size zeroO (.slice none 0 0) (.slice none 0 0)) Tryz.results52 rfl rfl rfl (setOp_same hz0 rfl) (ope_no (setOp_low hb (Nat.le_refl _) _ _ _) HN.out)
end Go.Proofs.YtnlooggibopknaaGreatDoor
