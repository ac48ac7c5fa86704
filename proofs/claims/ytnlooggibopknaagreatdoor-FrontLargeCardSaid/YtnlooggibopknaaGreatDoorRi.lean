/- The walk of the reference's listing. -/
import Derived.Test.YtnlooggibopknaaGreatDoorRq
import Derived.Test.YtnlooggibopknaaGreatDoorW5
namespace Go.Proofs.YtnlooggibopknaaGreatDoor
open Go.RowKit Go.Sort

def sBang : ByteArray := ⟨#[33]⟩
def sPre : ByteArray := ⟨#[112, 114, 101, 102, 105, 120, 61]⟩
def sBPre : ByteArray := ⟨#[33, 112, 114, 101, 102, 105, 120, 61]⟩
/-- The ops that stand behind a bucket's question mark. -/
def LstG (N : Nat) (b s : ByteArray) (o : O) : Prop := OpnO N o ∧ o.kind = 6 ∧ o.bu = b ∧ o.up = 0 ∧ o.ps = [] ∧ s = sPre ++ (escB o.ke ++ (sAfter ++ (escB o.af ++ (sN ++ itoaB o.n))))
theorem lst_1 {N : Nat} {b s : ByteArray} {o : O} (h : LstG N b s o) : cutO (sBang ++ s) sBPre = some (⟨#[]⟩, escB o.ke ++ (sAfter ++ (escB o.af ++ (sN ++ itoaB o.n)))) := by
  obtain ⟨_, _, _, _, _, rfl⟩ := h
  have e : sBang ++ (sPre ++ (escB o.ke ++ (sAfter ++ (escB o.af ++ (sN ++ itoaB o.n))))) = ⟨#[]⟩ ++ (sBPre ++ (escB o.ke ++ (sAfter ++ (escB o.af ++ (sN ++ itoaB o.n))))) := by
    rw [← ba_assoc, show sBang ++ sPre = sBPre from bl_inj rfl]
    apply bl_inj
    rw [bl_app, bl_app, bl_app]
    rfl
  rw [e]
  exact cutO_at (c := 33) (tl := [112, 114, 101, 102, 105, 120, 61]) rfl _ _ (by intro h; cases h)
theorem lst_2 (o : O) (x : ByteArray) : cutO (escB o.ke ++ (sAfter ++ x)) sAfter = some (escB o.ke, x) := cutO_at (c := 38) (tl := [97, 102, 116, 101, 114, 61]) rfl _ _ (esc_no (by decide) (by decide))
theorem lst_3 (o : O) (x : ByteArray) : cutO (escB o.af ++ (sN ++ x)) sN = some (escB o.af, x) := cutO_at (c := 38) (tl := [110, 61]) rfl _ _ (esc_no (by decide) (by decide))
def opLs (b k a : ByteArray) (n : Int) : O := ⟨0, 6, b, k, a, n, 0, [], []⟩
theorem lst_op {N : Nat} {b s : ByteArray} {o : O} (h : LstG N b s o) : o = opLs b o.ke o.af o.n := by
  obtain ⟨h0, h1, h2, h3, h4, _⟩ := h
  obtain ⟨i, k, bu, e, a, n, u, ps, da⟩ := o
  have h5 : i = 0 := h0.id
  have h6 : da = [] := h0.da
  simp only at h1 h2 h3 h4
  subst h1 h2 h3 h4 h5 h6
  rfl
/-- What Unescape tells. -/
theorem escL_ge (l : List UInt8) : l.length ≤ (escL l).length := by
  induction l with
  | nil => exact Nat.zero_le _
  | cons c l ih =>
    rcases escC_cases c with ⟨_, e⟩ | ⟨q, r, _, e⟩ <;> simp only [escL, List.flatMap_cons, List.length_append, List.length_cons, e, List.length_nil] at * <;> omega
theorem unesc_tell (p : ByteArray) : ∃ (k : ByteArray) (kb : Bool), unescE p = .returned (.tuple #[.string k, .bool kb]) ∧ k.size ≤ p.size ∧ ∀ x, p = escB x → kb = true ∧ k = x := by
  cases h : unescL p.data.toList with
  | none =>
    refine ⟨⟨#[]⟩, false, (unescE_none h).symm, Nat.zero_le _, fun x hx => ?_⟩
    subst hx
    rw [show unescL (escB x).data.toList = some (bl x) from unesc_esc x] at h
    cases h
  | some t =>
    refine ⟨⟨t.toArray⟩, true, (unescE_some h).symm, ?_, fun x hx => ⟨rfl, ?_⟩⟩
    · have h1 := unescL_iff.1 h
      have h2 := congrArg List.length h1
      rw [show p.data.toList.length = p.size from bl_len p] at h2
      show (List.toArray t).size ≤ _
      rw [List.size_toArray, ← h2]
      exact escL_ge t
    · subst hx
      rw [show unescL (escB x).data.toList = some (bl x) from unesc_esc x] at h
      obtain rfl := Option.some.inj h
      exact mkB_of x
theorem until_some {s x a b : ByteArray} (h : cutO s x = some (a, b)) : untilE s x = .returned (.tuple #[.string a, .string b, .bool true]) := by unfold untilE; rw [h]
theorem until_none {s x : ByteArray} (h : cutO s x = none) : untilE s x = .returned (.tuple #[.string ⟨#[]⟩, .string ⟨#[]⟩, .bool false]) := by unfold untilE; rw [h]
theorem lst_no1 {N : Nat} {b s : ByteArray} (h : cutO (sBang ++ s) sBPre = none) (o : O) : ¬ LstG N b s o := fun ho => by rw [lst_1 ho] at h; cases h
theorem lst_no2 {N : Nat} {b s x s2 : ByteArray} (h : cutO (sBang ++ s) sBPre = some (x, s2)) (h2 : cutO s2 sAfter = none) (o : O) : ¬ LstG N b s o := fun ho => by
  rw [lst_1 ho] at h
  simp only [Option.some.injEq, Prod.mk.injEq] at h
  obtain ⟨_, rfl⟩ := h
  rw [lst_2] at h2
  cases h2
theorem lst_no3 {N : Nat} {b s x s2 p s3 : ByteArray} (h : cutO (sBang ++ s) sBPre = some (x, s2)) (h2 : cutO s2 sAfter = some (p, s3)) (h3 : cutO s3 sN = none) (o : O) : ¬ LstG N b s o := fun ho => by
  rw [lst_1 ho] at h
  simp only [Option.some.injEq, Prod.mk.injEq] at h
  obtain ⟨_, rfl⟩ := h
  rw [lst_2] at h2
  simp only [Option.some.injEq, Prod.mk.injEq] at h2
  obtain ⟨_, rfl⟩ := h2
  rw [lst_3] at h3
  cases h3
/-- What listing tells of the ops that it knows. -/
theorem lst_tell {N : Nat} {b s x s2 p s3 a n k a' : ByteArray} {m : Int} {kb ab : Bool} (h : cutO (sBang ++ s) sBPre = some (x, s2)) (h2 : cutO s2 sAfter = some (p, s3)) (h3 : cutO s3 sN = some (a, n))
    (hk : ∀ x, p = escB x → kb = true ∧ k = x) (ha : ∀ x, a = escB x → ab = true ∧ a' = x) (hm : smallB n = true → m = (valD (bl n) : Int)) (o : O) (ho : LstG N b s o) : (kb = true ∧ ab = true ∧ smallB n = true) ∧ opLs b k a' m = o := by
  rw [lst_1 ho] at h
  simp only [Option.some.injEq, Prod.mk.injEq] at h
  obtain ⟨_, rfl⟩ := h
  rw [lst_2] at h2
  simp only [Option.some.injEq, Prod.mk.injEq] at h2
  obtain ⟨rfl, rfl⟩ := h2
  rw [lst_3] at h3
  simp only [Option.some.injEq, Prod.mk.injEq] at h3
  obtain ⟨rfl, rfl⟩ := h3
  obtain ⟨k1, rfl⟩ := hk _ rfl
  obtain ⟨a1, rfl⟩ := ha _ rfl
  obtain ⟨h4, h5⟩ := small_itoa ho.1.n0 ho.1.n1
  refine ⟨⟨k1, a1, h4⟩, ?_⟩
  rw [hm h4, h5]
  exact (lst_op ho).symm
theorem opn_ls {N : Nat} {b k a x : ByteArray} {m : Int} (hb : b.size ≤ N) (hk : k.size ≤ N) (ha : a.size ≤ N) (h : smallB x = true) (hm : smallB x = true → m = (valD (bl x) : Int)) : OpnO N (opLs b k a m) := by
  have h1 := hm h
  unfold smallB at h
  rw [Bool.and_eq_true, decide_eq_true_eq] at h
  exact ⟨rfl, (show (1 : Int) ≤ 6 by decide), (show (6 : Int) ≤ 10 by decide), hb, hk, ha, by show 0 ≤ m; omega, by show m ≤ _; omega, (show 0 < 2 ^ 64 by decide), Nat.zero_le _, (fun p hp => by cases hp), rfl⟩

set_option maxHeartbeats 8000000 in
set_option maxRecDepth 100000 in
theorem listing_any (b s : ByteArray) (w : World) (hs : s.size ≤ 65536) (hbz : b.size ≤ 65536) : Calls Tryz.prog 113 #[.string b, .string s] w (TgtR (LstG 65536 b s) 65536 w) := by
  have HU1 : Hid (∀ W, Calls Tryz.prog 85 #[.string (⟨#[33]⟩ ++ s), .string ⟨#[33, 112, 114, 101, 102, 105, 120, 61]⟩] W fun e w' => e = untilE (sBang ++ s) sBPre ∧ Below W.heap.size W w') := fun W => until_any (sBang ++ s) sBPre W (by rw [ByteArray.size_append, show sBang.size = 1 from rfl]; omega) (by decide) (by decide)
  have hz1 : (sBang ++ s).size ≤ 65537 := by rw [ByteArray.size_append, show sBang.size = 1 from rfl]; omega
  have HZ1 := Lib.hid hz1
  clear hz1
  go_enter Tryz.func113, Tryz.ntmps113
  go_upto_region 2 with fail
  obtain ⟨W, hW, hz0, hk1, hb⟩ := two_blocks w #[.int .u64 0, .int .i64 0, .string ⟨#[]⟩, .string ⟨#[]⟩, .string ⟨#[]⟩, .int .i64 0, .int .u64 0, .slice none 0 0, .slice none 0 0] #[.int .u64 0, .int .i64 6, .string b, .string ⟨#[]⟩, .string ⟨#[]⟩, .int .i64 0, .int .u64 0, .slice none 0 0, .slice none 0 0]
  rw [← hW]
  clear hW
  have hsz : w.heap.size + 1 < W.heap.size := lt_of_at hk1
  go_wp2_with fail
  refine (HU1.out _).mono ?_
  rintro e W1 ⟨he, hb1⟩
  have he := Lib.hid he
  have hz0 : W1.heap[w.heap.size]? = some (.cells #[.int .u64 0, .int .i64 0, .string ⟨#[]⟩, .string ⟨#[]⟩, .string ⟨#[]⟩, .int .i64 0, .int .u64 0, .slice none 0 0, .slice none 0 0] 26 (0, 0)) := (hb1.block _ (by omega)).trans hz0
  have hk1 : W1.heap[w.heap.size + 1]? = some (.cells #[.int .u64 0, .int .i64 6, .string b, .string ⟨#[]⟩, .string ⟨#[]⟩, .int .i64 0, .int .u64 0, .slice none 0 0, .slice none 0 0] 26 (0, 0)) := (hb1.block _ (by omega)).trans hk1
  have hb := hb.trans (hb1.mono hb.size)
  have hsz : w.heap.size + 1 < W1.heap.size := lt_of_at hk1
  clear hb1
  cases hc1 : cutO (sBang ++ s) sBPre with
  | none =>
    obtain rfl := he.out.trans (until_none hc1)
    have HN := Lib.hid (lst_no1 (N := 65536) (b := b) hc1)
    clear hc1 he
    have z0 : W1.cell? ⟨w.heap.size, 0, none⟩ = some (.int .u64 0) := cell_of_row _ _ 0 _ _ _ hz0
    have z1 : W1.cell? ⟨w.heap.size, 1, none⟩ = some (.int .i64 0) := cell_of_row _ _ 1 _ _ _ hz0
    have z2 : W1.cell? ⟨w.heap.size, 2, none⟩ = some (.string ⟨#[]⟩) := cell_of_row _ _ 2 _ _ _ hz0
    have z3 : W1.cell? ⟨w.heap.size, 3, none⟩ = some (.string ⟨#[]⟩) := cell_of_row _ _ 3 _ _ _ hz0
    have z4 : W1.cell? ⟨w.heap.size, 4, none⟩ = some (.string ⟨#[]⟩) := cell_of_row _ _ 4 _ _ _ hz0
    have z5 : W1.cell? ⟨w.heap.size, 5, none⟩ = some (.int .i64 0) := cell_of_row _ _ 5 _ _ _ hz0
    have z6 : W1.cell? ⟨w.heap.size, 6, none⟩ = some (.int .u64 0) := cell_of_row _ _ 6 _ _ _ hz0
    have z7 : W1.cell? ⟨w.heap.size, 7, none⟩ = some (.slice none 0 0) := cell_of_row _ _ 7 _ _ _ hz0
    have z8 : W1.cell? ⟨w.heap.size, 8, none⟩ = some (.slice none 0 0) := cell_of_row _ _ 8 _ _ _ hz0
    have zf : ∀ j, W1.frozen? ⟨w.heap.size, j, none⟩ = false := fun j => frozen_of_row W1 (w.heap.size) j _ _ hz0
    go_wp2
    exact tgt_ret (W := setOp W1 w.heap.size zeroO (.slice none 0 0) (.slice none 0 0)) Tryz.results113 rfl rfl (setOp_same hz0 rfl) (tgt_no (setOp_low hb (Nat.le_refl _) _ _ _) HN.out)
  | some q1 =>
    obtain ⟨x1, s2⟩ := q1
    obtain rfl := he.out.trans (until_some hc1)
    have hz2 : s2.size ≤ 65537 := Nat.le_trans (cutO_size hc1).2 HZ1.out
    have HC1 := Lib.hid hc1
    clear hc1 he
    have HU2 : Hid (∀ W, Calls Tryz.prog 85 #[.string s2, .string ⟨#[38, 97, 102, 116, 101, 114, 61]⟩] W fun e w' => e = untilE s2 sAfter ∧ Below W.heap.size W w') := fun W => until_any s2 sAfter W (by omega) (by decide) (by decide)
    go_wp2_with fail
    refine (HU2.out _).mono ?_
    rintro e W2 ⟨he, hb1⟩
    have he := Lib.hid he
    have hz0 : W2.heap[w.heap.size]? = some (.cells #[.int .u64 0, .int .i64 0, .string ⟨#[]⟩, .string ⟨#[]⟩, .string ⟨#[]⟩, .int .i64 0, .int .u64 0, .slice none 0 0, .slice none 0 0] 26 (0, 0)) := (hb1.block _ (by omega)).trans hz0
    have hk1 : W2.heap[w.heap.size + 1]? = some (.cells #[.int .u64 0, .int .i64 6, .string b, .string ⟨#[]⟩, .string ⟨#[]⟩, .int .i64 0, .int .u64 0, .slice none 0 0, .slice none 0 0] 26 (0, 0)) := (hb1.block _ (by omega)).trans hk1
    have hb := hb.trans (hb1.mono hb.size)
    have hsz : w.heap.size + 1 < W2.heap.size := lt_of_at hk1
    clear hb1
    cases hc2 : cutO s2 sAfter with
    | none =>
      obtain rfl := he.out.trans (until_none hc2)
      have HN := Lib.hid (lst_no2 (N := 65536) (b := b) HC1.out hc2)
      clear hc2 he
      have z0 : W2.cell? ⟨w.heap.size, 0, none⟩ = some (.int .u64 0) := cell_of_row _ _ 0 _ _ _ hz0
      have z1 : W2.cell? ⟨w.heap.size, 1, none⟩ = some (.int .i64 0) := cell_of_row _ _ 1 _ _ _ hz0
      have z2 : W2.cell? ⟨w.heap.size, 2, none⟩ = some (.string ⟨#[]⟩) := cell_of_row _ _ 2 _ _ _ hz0
      have z3 : W2.cell? ⟨w.heap.size, 3, none⟩ = some (.string ⟨#[]⟩) := cell_of_row _ _ 3 _ _ _ hz0
      have z4 : W2.cell? ⟨w.heap.size, 4, none⟩ = some (.string ⟨#[]⟩) := cell_of_row _ _ 4 _ _ _ hz0
      have z5 : W2.cell? ⟨w.heap.size, 5, none⟩ = some (.int .i64 0) := cell_of_row _ _ 5 _ _ _ hz0
      have z6 : W2.cell? ⟨w.heap.size, 6, none⟩ = some (.int .u64 0) := cell_of_row _ _ 6 _ _ _ hz0
      have z7 : W2.cell? ⟨w.heap.size, 7, none⟩ = some (.slice none 0 0) := cell_of_row _ _ 7 _ _ _ hz0
      have z8 : W2.cell? ⟨w.heap.size, 8, none⟩ = some (.slice none 0 0) := cell_of_row _ _ 8 _ _ _ hz0
      have zf : ∀ j, W2.frozen? ⟨w.heap.size, j, none⟩ = false := fun j => frozen_of_row W2 (w.heap.size) j _ _ hz0
      go_wp2
      exact tgt_ret (W := setOp W2 w.heap.size zeroO (.slice none 0 0) (.slice none 0 0)) Tryz.results113 rfl rfl (setOp_same hz0 rfl) (tgt_no (setOp_low hb (Nat.le_refl _) _ _ _) HN.out)
    | some q2 =>
      obtain ⟨p, s3⟩ := q2
      obtain rfl := he.out.trans (until_some hc2)
      have hz3 : p.size ≤ 65537 ∧ s3.size ≤ 65537 := ⟨Nat.le_trans (cutO_size hc2).1 hz2, Nat.le_trans (cutO_size hc2).2 hz2⟩
      have hz2' := cutO_is hc2
      have hz2' := congrArg ByteArray.size hz2'
      rw [ByteArray.size_append, ByteArray.size_append, show sAfter.size = 7 from rfl] at hz2'
      have hzp : p.size ≤ 65536 := by omega
      have hzs : s3.size ≤ 65536 := by omega
      have HC2 := Lib.hid hc2
      clear hc2 he hz2' hz3
      have HU3 : Hid (∀ W, Calls Tryz.prog 85 #[.string s3, .string ⟨#[38, 110, 61]⟩] W fun e w' => e = untilE s3 sN ∧ Below W.heap.size W w') := fun W => until_any s3 sN W (by omega) (by decide) (by decide)
      go_wp2_with fail
      refine (HU3.out _).mono ?_
      rintro e W3 ⟨he, hb1⟩
      have he := Lib.hid he
      have hz0 : W3.heap[w.heap.size]? = some (.cells #[.int .u64 0, .int .i64 0, .string ⟨#[]⟩, .string ⟨#[]⟩, .string ⟨#[]⟩, .int .i64 0, .int .u64 0, .slice none 0 0, .slice none 0 0] 26 (0, 0)) := (hb1.block _ (by omega)).trans hz0
      have hk1 : W3.heap[w.heap.size + 1]? = some (.cells #[.int .u64 0, .int .i64 6, .string b, .string ⟨#[]⟩, .string ⟨#[]⟩, .int .i64 0, .int .u64 0, .slice none 0 0, .slice none 0 0] 26 (0, 0)) := (hb1.block _ (by omega)).trans hk1
      have hb := hb.trans (hb1.mono hb.size)
      have hsz : w.heap.size + 1 < W3.heap.size := lt_of_at hk1
      clear hb1
      cases hc3 : cutO s3 sN with
      | none =>
        obtain rfl := he.out.trans (until_none hc3)
        have HN := Lib.hid (lst_no3 (N := 65536) (b := b) HC1.out HC2.out hc3)
        clear hc3 he
        have z0 : W3.cell? ⟨w.heap.size, 0, none⟩ = some (.int .u64 0) := cell_of_row _ _ 0 _ _ _ hz0
        have z1 : W3.cell? ⟨w.heap.size, 1, none⟩ = some (.int .i64 0) := cell_of_row _ _ 1 _ _ _ hz0
        have z2 : W3.cell? ⟨w.heap.size, 2, none⟩ = some (.string ⟨#[]⟩) := cell_of_row _ _ 2 _ _ _ hz0
        have z3 : W3.cell? ⟨w.heap.size, 3, none⟩ = some (.string ⟨#[]⟩) := cell_of_row _ _ 3 _ _ _ hz0
        have z4 : W3.cell? ⟨w.heap.size, 4, none⟩ = some (.string ⟨#[]⟩) := cell_of_row _ _ 4 _ _ _ hz0
        have z5 : W3.cell? ⟨w.heap.size, 5, none⟩ = some (.int .i64 0) := cell_of_row _ _ 5 _ _ _ hz0
        have z6 : W3.cell? ⟨w.heap.size, 6, none⟩ = some (.int .u64 0) := cell_of_row _ _ 6 _ _ _ hz0
        have z7 : W3.cell? ⟨w.heap.size, 7, none⟩ = some (.slice none 0 0) := cell_of_row _ _ 7 _ _ _ hz0
        have z8 : W3.cell? ⟨w.heap.size, 8, none⟩ = some (.slice none 0 0) := cell_of_row _ _ 8 _ _ _ hz0
        have zf : ∀ j, W3.frozen? ⟨w.heap.size, j, none⟩ = false := fun j => frozen_of_row W3 (w.heap.size) j _ _ hz0
        go_wp2
        exact tgt_ret (W := setOp W3 w.heap.size zeroO (.slice none 0 0) (.slice none 0 0)) Tryz.results113 rfl rfl (setOp_same hz0 rfl) (tgt_no (setOp_low hb (Nat.le_refl _) _ _ _) HN.out)
      | some q3 =>
        obtain ⟨a, n⟩ := q3
        obtain rfl := he.out.trans (until_some hc3)
        have hza : a.size ≤ 65536 := Nat.le_trans (cutO_size hc3).1 hzs
        have hzn : n.size ≤ 65536 := Nat.le_trans (cutO_size hc3).2 hzs
        have HC3 := Lib.hid hc3
        clear hc3 he
        obtain ⟨k, kb, hke, hkz, hkt⟩ := unesc_tell p
        obtain ⟨a', ab, hae, haz, hat⟩ := unesc_tell a
        have HKP : Hid (∀ W, Calls Tryz.prog 18 #[.string p] W fun e w' => e = .returned (.tuple #[.string k, .bool kb]) ∧ Below W.heap.size W w') := fun W => by rw [← hke]; exact unescapeR_any p W (by omega)
        have HKA : Hid (∀ W, Calls Tryz.prog 18 #[.string a] W fun e w' => e = .returned (.tuple #[.string a', .bool ab]) ∧ Below W.heap.size W w') := fun W => by rw [← hae]; exact unescapeR_any a W (by omega)
        have HSM : Hid (∀ W, Calls Tryz.prog 63 #[.string n] W fun e w' => SmaR n e ∧ Below W.heap.size W w') := fun W => small_any n W (by omega)
        have HT := Lib.hid fun (m : Int) hm => lst_tell (N := 65536) (b := b) (m := m) HC1.out HC2.out HC3.out hkt hat hm
        have HO := Lib.hid fun (m : Int) hm hx => opn_ls (N := 65536) (b := b) (k := k) (a := a') (x := n) (m := m) hbz (Nat.le_trans hkz hzp) (Nat.le_trans haz hza) hx hm
        clear hke hae hkz haz hkt hat hzp hza hzn hzs hz2 HC1 HC2 HC3 HU1 HU2 HU3 HZ1 hs hbz
        go_wp2_with fail
        refine (HKP.out _).mono ?_
        rintro e W4 ⟨rfl, hb1⟩
        have hz0 : W4.heap[w.heap.size]? = some (.cells #[.int .u64 0, .int .i64 0, .string ⟨#[]⟩, .string ⟨#[]⟩, .string ⟨#[]⟩, .int .i64 0, .int .u64 0, .slice none 0 0, .slice none 0 0] 26 (0, 0)) := (hb1.block _ (by omega)).trans hz0
        have hk1 : W4.heap[w.heap.size + 1]? = some (.cells #[.int .u64 0, .int .i64 6, .string b, .string ⟨#[]⟩, .string ⟨#[]⟩, .int .i64 0, .int .u64 0, .slice none 0 0, .slice none 0 0] 26 (0, 0)) := (hb1.block _ (by omega)).trans hk1
        have hb := hb.trans (hb1.mono hb.size)
        have hsz : w.heap.size + 1 < W4.heap.size := lt_of_at hk1
        clear hb1
        have k0 : W4.cell? ⟨w.heap.size + 1, 0, none⟩ = some (.int .u64 0) := cell_of_row _ _ 0 _ _ _ hk1
        have k1 : W4.cell? ⟨w.heap.size + 1, 1, none⟩ = some (.int .i64 6) := cell_of_row _ _ 1 _ _ _ hk1
        have k2 : W4.cell? ⟨w.heap.size + 1, 2, none⟩ = some (.string b) := cell_of_row _ _ 2 _ _ _ hk1
        have k3 : W4.cell? ⟨w.heap.size + 1, 3, none⟩ = some (.string ⟨#[]⟩) := cell_of_row _ _ 3 _ _ _ hk1
        have k4 : W4.cell? ⟨w.heap.size + 1, 4, none⟩ = some (.string ⟨#[]⟩) := cell_of_row _ _ 4 _ _ _ hk1
        have k5 : W4.cell? ⟨w.heap.size + 1, 5, none⟩ = some (.int .i64 0) := cell_of_row _ _ 5 _ _ _ hk1
        have k6 : W4.cell? ⟨w.heap.size + 1, 6, none⟩ = some (.int .u64 0) := cell_of_row _ _ 6 _ _ _ hk1
        have k7 : W4.cell? ⟨w.heap.size + 1, 7, none⟩ = some (.slice none 0 0) := cell_of_row _ _ 7 _ _ _ hk1
        have k8 : W4.cell? ⟨w.heap.size + 1, 8, none⟩ = some (.slice none 0 0) := cell_of_row _ _ 8 _ _ _ hk1
        have kf : ∀ j, W4.frozen? ⟨w.heap.size + 1, j, none⟩ = false := fun j => frozen_of_row W4 (w.heap.size + 1) j _ _ hk1
        go_upto_region 12 with fail
        clear k0 k1 k2 k3 k4 k5 k6 k7 k8 kf
        have hk2 := heap_setCell_same W4 (w.heap.size + 1) 3 _ _ (.string k) hk1
        have hz2 := (Below.heap_setCell W4 ⟨w.heap.size + 1, 3, none⟩ (.string k) w.heap.size (by simp)).trans hz0
        have hb3 := hb.setCell (p := ⟨w.heap.size + 1, 3, none⟩) (Nat.le_succ _) (.string k)
        clear hk1 hz0 hb hsz
        generalize W4.setCell ⟨w.heap.size + 1, 3, none⟩ (.string k) = W5 at *
        have hz0 := hz2
        have hk1 : W5.heap[w.heap.size + 1]? = some (.cells #[.int .u64 0, .int .i64 6, .string b, .string k, .string ⟨#[]⟩, .int .i64 0, .int .u64 0, .slice none 0 0, .slice none 0 0] 26 (0, 0)) := hk2
        have hb := hb3
        have hsz : w.heap.size + 1 < W5.heap.size := lt_of_at hk1
        clear hz2 hk2 hb3
        go_wp2_with fail
        refine (HKA.out _).mono ?_
        rintro e W6 ⟨rfl, hb1⟩
        have hz0 : W6.heap[w.heap.size]? = some (.cells #[.int .u64 0, .int .i64 0, .string ⟨#[]⟩, .string ⟨#[]⟩, .string ⟨#[]⟩, .int .i64 0, .int .u64 0, .slice none 0 0, .slice none 0 0] 26 (0, 0)) := (hb1.block _ (by omega)).trans hz0
        have hk1 : W6.heap[w.heap.size + 1]? = some (.cells #[.int .u64 0, .int .i64 6, .string b, .string k, .string ⟨#[]⟩, .int .i64 0, .int .u64 0, .slice none 0 0, .slice none 0 0] 26 (0, 0)) := (hb1.block _ (by omega)).trans hk1
        have hb := hb.trans (hb1.mono hb.size)
        have hsz : w.heap.size + 1 < W6.heap.size := lt_of_at hk1
        clear hb1
        have k0 : W6.cell? ⟨w.heap.size + 1, 0, none⟩ = some (.int .u64 0) := cell_of_row _ _ 0 _ _ _ hk1
        have k1 : W6.cell? ⟨w.heap.size + 1, 1, none⟩ = some (.int .i64 6) := cell_of_row _ _ 1 _ _ _ hk1
        have k2 : W6.cell? ⟨w.heap.size + 1, 2, none⟩ = some (.string b) := cell_of_row _ _ 2 _ _ _ hk1
        have k3 : W6.cell? ⟨w.heap.size + 1, 3, none⟩ = some (.string k) := cell_of_row _ _ 3 _ _ _ hk1
        have k4 : W6.cell? ⟨w.heap.size + 1, 4, none⟩ = some (.string ⟨#[]⟩) := cell_of_row _ _ 4 _ _ _ hk1
        have k5 : W6.cell? ⟨w.heap.size + 1, 5, none⟩ = some (.int .i64 0) := cell_of_row _ _ 5 _ _ _ hk1
        have k6 : W6.cell? ⟨w.heap.size + 1, 6, none⟩ = some (.int .u64 0) := cell_of_row _ _ 6 _ _ _ hk1
        have k7 : W6.cell? ⟨w.heap.size + 1, 7, none⟩ = some (.slice none 0 0) := cell_of_row _ _ 7 _ _ _ hk1
        have k8 : W6.cell? ⟨w.heap.size + 1, 8, none⟩ = some (.slice none 0 0) := cell_of_row _ _ 8 _ _ _ hk1
        have kf : ∀ j, W6.frozen? ⟨w.heap.size + 1, j, none⟩ = false := fun j => frozen_of_row W6 (w.heap.size + 1) j _ _ hk1
        go_upto_region 13 with fail
        clear k0 k1 k2 k3 k4 k5 k6 k7 k8 kf
        have hk2 := heap_setCell_same W6 (w.heap.size + 1) 4 _ _ (.string a') hk1
        have hz2 := (Below.heap_setCell W6 ⟨w.heap.size + 1, 4, none⟩ (.string a') w.heap.size (by simp)).trans hz0
        have hb3 := hb.setCell (p := ⟨w.heap.size + 1, 4, none⟩) (Nat.le_succ _) (.string a')
        clear hk1 hz0 hb hsz
        generalize W6.setCell ⟨w.heap.size + 1, 4, none⟩ (.string a') = W7 at *
        have hz0 := hz2
        have hk1 : W7.heap[w.heap.size + 1]? = some (.cells #[.int .u64 0, .int .i64 6, .string b, .string k, .string a', .int .i64 0, .int .u64 0, .slice none 0 0, .slice none 0 0] 26 (0, 0)) := hk2
        have hb := hb3
        have hsz : w.heap.size + 1 < W7.heap.size := lt_of_at hk1
        clear hz2 hk2 hb3
        go_wp2_with fail
        refine (HSM.out _).mono ?_
        rintro e W8 ⟨⟨m, rfl, hm⟩, hb1⟩
        have hz0 : W8.heap[w.heap.size]? = some (.cells #[.int .u64 0, .int .i64 0, .string ⟨#[]⟩, .string ⟨#[]⟩, .string ⟨#[]⟩, .int .i64 0, .int .u64 0, .slice none 0 0, .slice none 0 0] 26 (0, 0)) := (hb1.block _ (by omega)).trans hz0
        have hk1 : W8.heap[w.heap.size + 1]? = some (.cells #[.int .u64 0, .int .i64 6, .string b, .string k, .string a', .int .i64 0, .int .u64 0, .slice none 0 0, .slice none 0 0] 26 (0, 0)) := (hb1.block _ (by omega)).trans hk1
        have hb := hb.trans (hb1.mono hb.size)
        have hsz : w.heap.size + 1 < W8.heap.size := lt_of_at hk1
        clear hb1
        have HT2 := Lib.hid (HT.out m hm)
        have HO2 := Lib.hid (HO.out m hm)
        clear hm HT HO
        generalize smallB n = mb at *
        have k0 : W8.cell? ⟨w.heap.size + 1, 0, none⟩ = some (.int .u64 0) := cell_of_row _ _ 0 _ _ _ hk1
        have k1 : W8.cell? ⟨w.heap.size + 1, 1, none⟩ = some (.int .i64 6) := cell_of_row _ _ 1 _ _ _ hk1
        have k2 : W8.cell? ⟨w.heap.size + 1, 2, none⟩ = some (.string b) := cell_of_row _ _ 2 _ _ _ hk1
        have k3 : W8.cell? ⟨w.heap.size + 1, 3, none⟩ = some (.string k) := cell_of_row _ _ 3 _ _ _ hk1
        have k4 : W8.cell? ⟨w.heap.size + 1, 4, none⟩ = some (.string a') := cell_of_row _ _ 4 _ _ _ hk1
        have k5 : W8.cell? ⟨w.heap.size + 1, 5, none⟩ = some (.int .i64 0) := cell_of_row _ _ 5 _ _ _ hk1
        have k6 : W8.cell? ⟨w.heap.size + 1, 6, none⟩ = some (.int .u64 0) := cell_of_row _ _ 6 _ _ _ hk1
        have k7 : W8.cell? ⟨w.heap.size + 1, 7, none⟩ = some (.slice none 0 0) := cell_of_row _ _ 7 _ _ _ hk1
        have k8 : W8.cell? ⟨w.heap.size + 1, 8, none⟩ = some (.slice none 0 0) := cell_of_row _ _ 8 _ _ _ hk1
        have kf : ∀ j, W8.frozen? ⟨w.heap.size + 1, j, none⟩ = false := fun j => frozen_of_row W8 (w.heap.size + 1) j _ _ hk1
        go_upto_region 15 with fail
        clear k0 k1 k2 k3 k4 k5 k6 k7 k8 kf
        have hk2 := heap_setCell_same W8 (w.heap.size + 1) 5 _ _ (.int .i64 m) hk1
        have hz2 := (Below.heap_setCell W8 ⟨w.heap.size + 1, 5, none⟩ (.int .i64 m) w.heap.size (by simp)).trans hz0
        have hb3 := hb.setCell (p := ⟨w.heap.size + 1, 5, none⟩) (Nat.le_succ _) (.int .i64 m)
        clear hk1 hz0 hb hsz
        generalize W8.setCell ⟨w.heap.size + 1, 5, none⟩ (.int .i64 m) = W9 at *
        have hz0 := hz2
        have hk1 : W9.heap[w.heap.size + 1]? = some (.cells #[.int .u64 0, .int .i64 6, .string b, .string k, .string a', .int .i64 m, .int .u64 0, .slice none 0 0, .slice none 0 0] 26 (0, 0)) := hk2
        have hb := hb3
        have hsz : w.heap.size + 1 < W9.heap.size := lt_of_at hk1
        clear hz2 hk2 hb3
        have z0 : W9.cell? ⟨w.heap.size, 0, none⟩ = some (.int .u64 0) := cell_of_row _ _ 0 _ _ _ hz0
        have z1 : W9.cell? ⟨w.heap.size, 1, none⟩ = some (.int .i64 0) := cell_of_row _ _ 1 _ _ _ hz0
        have z2 : W9.cell? ⟨w.heap.size, 2, none⟩ = some (.string ⟨#[]⟩) := cell_of_row _ _ 2 _ _ _ hz0
        have z3 : W9.cell? ⟨w.heap.size, 3, none⟩ = some (.string ⟨#[]⟩) := cell_of_row _ _ 3 _ _ _ hz0
        have z4 : W9.cell? ⟨w.heap.size, 4, none⟩ = some (.string ⟨#[]⟩) := cell_of_row _ _ 4 _ _ _ hz0
        have z5 : W9.cell? ⟨w.heap.size, 5, none⟩ = some (.int .i64 0) := cell_of_row _ _ 5 _ _ _ hz0
        have z6 : W9.cell? ⟨w.heap.size, 6, none⟩ = some (.int .u64 0) := cell_of_row _ _ 6 _ _ _ hz0
        have z7 : W9.cell? ⟨w.heap.size, 7, none⟩ = some (.slice none 0 0) := cell_of_row _ _ 7 _ _ _ hz0
        have z8 : W9.cell? ⟨w.heap.size, 8, none⟩ = some (.slice none 0 0) := cell_of_row _ _ 8 _ _ _ hz0
        have zf : ∀ j, W9.frozen? ⟨w.heap.size, j, none⟩ = false := fun j => frozen_of_row W9 (w.heap.size) j _ _ hz0
        have k0 : W9.cell? ⟨w.heap.size + 1, 0, none⟩ = some (.int .u64 0) := cell_of_row _ _ 0 _ _ _ hk1
        have k1 : W9.cell? ⟨w.heap.size + 1, 1, none⟩ = some (.int .i64 6) := cell_of_row _ _ 1 _ _ _ hk1
        have k2 : W9.cell? ⟨w.heap.size + 1, 2, none⟩ = some (.string b) := cell_of_row _ _ 2 _ _ _ hk1
        have k3 : W9.cell? ⟨w.heap.size + 1, 3, none⟩ = some (.string k) := cell_of_row _ _ 3 _ _ _ hk1
        have k4 : W9.cell? ⟨w.heap.size + 1, 4, none⟩ = some (.string a') := cell_of_row _ _ 4 _ _ _ hk1
        have k5 : W9.cell? ⟨w.heap.size + 1, 5, none⟩ = some (.int .i64 m) := cell_of_row _ _ 5 _ _ _ hk1
        have k6 : W9.cell? ⟨w.heap.size + 1, 6, none⟩ = some (.int .u64 0) := cell_of_row _ _ 6 _ _ _ hk1
        have k7 : W9.cell? ⟨w.heap.size + 1, 7, none⟩ = some (.slice none 0 0) := cell_of_row _ _ 7 _ _ _ hk1
        have k8 : W9.cell? ⟨w.heap.size + 1, 8, none⟩ = some (.slice none 0 0) := cell_of_row _ _ 8 _ _ _ hk1
        have kf : ∀ j, W9.frozen? ⟨w.heap.size + 1, j, none⟩ = false := fun j => frozen_of_row W9 (w.heap.size + 1) j _ _ hk1
        cases kb with
        | false =>
          go_wp2
          exact tgt_ret (W := setOp W9 w.heap.size (opLs b k a' m) (.slice none 0 0) (.slice none 0 0)) Tryz.results113 rfl rfl (setOp_same hz0 rfl) ⟨opLs b k a' m, .slice none 0 0, false, rfl, RowZ.nil _ _ _ _, rfl, (fun e => by cases e), setOp_low hb (Nat.le_refl _) _ _ _, fun o ho => absurd (HT2.out o ho).1.1 (by decide)⟩
        | true =>
          cases ab with
          | false =>
            go_wp2
            exact tgt_ret (W := setOp W9 w.heap.size (opLs b k a' m) (.slice none 0 0) (.slice none 0 0)) Tryz.results113 rfl rfl (setOp_same hz0 rfl) ⟨opLs b k a' m, .slice none 0 0, false, rfl, RowZ.nil _ _ _ _, rfl, (fun e => by cases e), setOp_low hb (Nat.le_refl _) _ _ _, fun o ho => absurd (HT2.out o ho).1.2.1 (by decide)⟩
          | true =>
            go_wp2
            exact tgt_ret (W := setOp W9 w.heap.size (opLs b k a' m) (.slice none 0 0) (.slice none 0 0)) Tryz.results113 rfl rfl (setOp_same hz0 rfl) ⟨opLs b k a' m, .slice none 0 0, mb, rfl, RowZ.nil _ _ _ _, rfl, HO2.out, setOp_low hb (Nat.le_refl _) _ _ _, fun o ho => ⟨(HT2.out o ho).1.2.2, (HT2.out o ho).2⟩⟩
end Go.Proofs.YtnlooggibopknaaGreatDoor
