/- The walk of front.Print. -/
import Derived.Test.YtnlooggibopknaaGreatDoorW15
import Derived.Test.YtnlooggibopknaaGreatDoorW16
import Derived.Test.YtnlooggibopknaaGreatDoorApp
import Derived.Handy
namespace Go.Proofs.YtnlooggibopknaaGreatDoor
open Go.RowKit Go.Sort

/-- The bytes that Print hands back. -/
def prL (o : O) : List UInt8 := if chkB o then printL o else []
def PrR (o : O) (w : World) (e : Ending) (w' : World) : Prop :=
  ∃ v, e = .returned (.tuple #[v, .int .i64 (if chkB o then 0 else 1)]) ∧ RowC w' v (bcells (prL o)) ∧ Below w.heap.size w w'

theorem below_box {w w1 : World} {cs : Array Value} {t : TypeId} (hb : Below (w.alloc (.cells cs t)).heap.size (w.alloc (.cells cs t)) w1) : Below w.heap.size w w1 :=
  ((Below.refl w.heap.size w).alloc (Nat.le_refl _) _).trans (hb.mono (by rw [World.size_alloc]; omega))
theorem method_re {W : World} (k : Int) (d : Nat) (os : Array Obj) : Calls Tryz.prog 33 #[.int .i64 k] (grow (redrawn W d) os) fun e w'' => e = .returned (.string (methodB k)) ∧ ∃ p : Regrown, w'' = grow (redrawn W p.d) p.os :=
  Calls.regrown_of ((method_any k _).mono fun _ _ ⟨h1, h2⟩ => ⟨h1, h2 ▸ Below.refl _ _⟩)
theorem methodB_size (k : Int) : (methodB k).size ≤ 6 := by unfold methodB; repeat (first | decide | split)
theorem targetB_size {o : O} (hS : SmO o) : (targetB o).size ≤ 70000 := by
  have h1 := hS.bu
  have h2 := hS.ke
  have h3 := hS.af
  have h4 := itoaB_size hS.n0 hS.n1
  have h5 := hexB_size o.up
  have h6 := escB_size o.ke
  have h7 := escB_size o.af
  have h8 : (commaB o.ps).size ≤ 60000 := by show (List.toArray _).size ≤ 60000; rw [List.size_toArray]; exact commaB_size hS.ps hS.pe
  have e1 : sSlash.size = 1 := rfl
  have e2 : sPrefix.size = 8 := rfl
  have e3 : sAfter.size = 7 := rfl
  have e4 : sN.size = 3 := rfl
  have e5 : sUpload.size = 9 := rfl
  have e6 : sPart.size = 6 := rfl
  have e7 : sParts.size = 7 := rfl
  unfold targetB
  repeat (first | split | (simp only [ByteArray.size_append]; omega))

set_option maxHeartbeats 2000000 in
set_option maxRecDepth 100000 in
theorem print_no (o : O) (pv dv : Value) (w : World) (hp : RowIn w pv (icells o.ps)) (hd : RowIn w dv (bcells o.da)) (hs : o.bu.size ≤ 1073741824) (hc : chkB o = false) :
    Calls Tryz.prog 13 #[opV o pv dv] w (PrR o w) := by
  have HC : Hid (∀ W, Below w.heap.size w W → Calls Tryz.prog 32 #[opV o pv dv] W fun e w' => e = .returned (.int .i64 1) ∧ Below W.heap.size W w') := fun W hb => (check_any o pv dv W (hp.below hb) (hd.below hb) hs).mono fun _ _ ⟨h1, h2⟩ => ⟨by rw [h1, hc]; rfl, h2⟩
  have HH := Lib.hid hc
  clear hp hd hc
  go_enter Tryz.func13, Tryz.ntmps13
  go_wp2_with fail
  refine (HC.out _ ((Below.refl _ _).alloc (Nat.le_refl _) _)).mono ?_
  rintro e w1 ⟨rfl, hb⟩
  go_wp2
  go_ret2
  refine ⟨.slice none 0 0, by rw [HH.out]; rfl, ?_, below_box hb⟩
  unfold prL
  rw [HH.out]
  exact RowC.nil _ _ _

set_option maxHeartbeats 4000000 in
set_option maxRecDepth 100000 in
theorem print_yes (o : O) (pv dv : Value) (w : World) (hp : RowIn w pv (icells o.ps)) (hd : RowIn w dv (bcells o.da)) (hO : OkO o) (hL : Lib0 w) (hc : chkB o = true) :
    Calls Tryz.prog 13 #[opV o pv dv] w (PrR o w) := by
  have hS := sm_of_chk hc
  have HS := Lib.hid hS
  have hs : o.bu.size ≤ 1073741824 := by have := hS.bu; omega
  have HC : Hid (∀ W, Below w.heap.size w W → Calls Tryz.prog 32 #[opV o pv dv] W fun e w' => e = .returned (.int .i64 0) ∧ Below W.heap.size W w') := fun W hb => (check_any o pv dv W (hp.below hb) (hd.below hb) hs).mono fun _ _ ⟨h1, h2⟩ => ⟨by rw [h1, hc]; rfl, h2⟩
  have HT : Hid (∀ W, Below w.heap.size w W → ∀ d os, Calls Tryz.prog 34 #[opV o pv dv] (grow (redrawn W d) os) fun e w'' => e = .returned (.string (targetB o)) ∧ ∃ p : Regrown, w'' = grow (redrawn W p.d) p.os) := fun W hb d os => Calls.regrown_of (target_any o pv dv _ ((hp.below hb).below (below_regrown W d os)) hO hc ((hL.below hb).below (below_regrown W d os)))
  have HL := Lib.hid hL
  have HH := Lib.hid hc
  have HD := Lib.hid hd
  have HO := Lib.hid hO
  obtain ⟨da, dc, rfl⟩ := hd.form
  rw [bcells_len] at HC HT HD
  rw [bcells_len]
  have hid := hO.id
  have hda : (o.da.length : Int) ≤ 16777216 := by have := hS.da; omega
  have hda0 : (0 : Int) ≤ (o.da.length : Int) := by omega
  have hm1 := methodB_size o.kind
  have ht1 := targetB_size hS
  have hx1 := hexB_size o.id
  have hdd : (itoaB (o.da.length : Int)).size ≤ 19 := by
    rw [itoa_dec]
    show (List.toArray _).size ≤ 19
    rw [List.size_toArray]
    exact decDigits_len 18 _ (by have := hS.da; omega)
  clear hp hd hc hS hL hs hO
  have n1 : ¬ 9223372036854775807 < (methodB o.kind).size + 1 := by omega
  have n2 : ¬ 9223372036854775807 < (methodB o.kind).size + 1 + (targetB o).size := by omega
  have n3 : ¬ 9223372036854775807 < (methodB o.kind).size + 1 + (targetB o).size + 1 := by omega
  have n4 : ¬ 9223372036854775807 < (methodB o.kind).size + 1 + (targetB o).size + 1 + 5 := by omega
  have n5 : ¬ 9223372036854775807 < (methodB o.kind).size + 1 + (targetB o).size + 1 + 5 + 2 := by omega
  have n6 : ¬ 9223372036854775807 < (methodB o.kind).size + 1 + (targetB o).size + 1 + 5 + 2 + 4 := by omega
  have n7 : ¬ 9223372036854775807 < (methodB o.kind).size + 1 + (targetB o).size + 1 + 5 + 2 + 4 + 16 := by omega
  have n8 : ¬ 9223372036854775807 < (methodB o.kind).size + 1 + (targetB o).size + 1 + 5 + 2 + 4 + 16 + 2 := by omega
  have n9 : ¬ 9223372036854775807 < (methodB o.kind).size + 1 + (targetB o).size + 1 + 5 + 2 + 4 + 16 + 2 + 8 := by omega
  have n10 : ¬ 9223372036854775807 < (methodB o.kind).size + 1 + (targetB o).size + 1 + 5 + 2 + 4 + 16 + 2 + 8 + (itoaB (o.da.length : Int)).size := by omega
  have n11 : ¬ 9223372036854775807 < (methodB o.kind).size + 1 + (targetB o).size + 1 + 5 + 2 + 4 + 16 + 2 + 8 + (itoaB (o.da.length : Int)).size + 2 := by omega
  have n12 : ¬ 9223372036854775807 < (methodB o.kind).size + 1 + (targetB o).size + 1 + 5 + 2 + 4 + 16 + 2 + 8 + (itoaB (o.da.length : Int)).size + 2 + 2 := by omega
  go_enter Tryz.func13, Tryz.ntmps13
  go_wp2_with fail
  refine (HC.out _ ((Below.refl _ _).alloc (Nat.le_refl _) _)).mono ?_
  rintro e w1 ⟨rfl, hb⟩
  have c0 : w1.cell? ⟨w.heap.size, 0, none⟩ = some (.int .u64 o.id) := op_cells hb 0 _ rfl
  have c1 : w1.cell? ⟨w.heap.size, 1, none⟩ = some (.int .i64 o.kind) := op_cells hb 1 _ rfl
  have c2 : w1.cell? ⟨w.heap.size, 2, none⟩ = some (.string o.bu) := op_cells hb 2 _ rfl
  have c3 : w1.cell? ⟨w.heap.size, 3, none⟩ = some (.string o.ke) := op_cells hb 3 _ rfl
  have c4 : w1.cell? ⟨w.heap.size, 4, none⟩ = some (.string o.af) := op_cells hb 4 _ rfl
  have c5 : w1.cell? ⟨w.heap.size, 5, none⟩ = some (.int .i64 o.n) := op_cells hb 5 _ rfl
  have c6 : w1.cell? ⟨w.heap.size, 6, none⟩ = some (.int .u64 o.up) := op_cells hb 6 _ rfl
  have c7 : w1.cell? ⟨w.heap.size, 7, none⟩ = some pv := op_cells hb 7 _ rfl
  have c8 : w1.cell? ⟨w.heap.size, 8, none⟩ = some (.slice da o.da.length dc) := op_cells hb 8 _ rfl
  have hbB := below_box hb
  have hsz : w.heap.size < w1.heap.size := by have := hb.size; rw [World.size_alloc] at this; omega
  have HTW := Lib.hid (HT.out w1 hbB)
  have HI : Hid (∀ d os, Calls Tryz.prog 36 #[.int .i64 (o.da.length : Int)] (grow (redrawn w1 d) os) fun e w'' => e = .returned (.string (itoaB (o.da.length : Int))) ∧ ∃ p : Regrown, w'' = grow (redrawn w1 p.d) p.os) := fun d os => itoa_re (HL.out.below hbB) _ (by omega) (by omega) d os
  have HX : Hid (∀ d os, Calls Tryz.prog 35 #[.int .u64 o.id] (grow (redrawn w1 d) os) fun e w'' => e = .returned (.string (hexB o.id)) ∧ ∃ p : Regrown, w'' = grow (redrawn w1 p.d) p.os) := fun d os => sixteen_re (HL.out.below hbB) o.id hid d os
  have k0 := cell_regrown c0
  have k1 := cell_regrown c1
  have k2 := cell_regrown c2
  have k3 := cell_regrown c3
  have k4 := cell_regrown c4
  have k5 := cell_regrown c5
  have k6 := cell_regrown c6
  have k7 := cell_regrown c7
  have k8 := cell_regrown c8
  have HBB := Lib.hid hbB
  clear hb hbB
  go_wp2
  refine wp_region_quiet_below (by kernel_rfl) (by kernel_rfl) ?_
  repeat (quiet_step (first | (go_at_call 33; exact method_re _ _ _) | (go_at_call 34; exact HTW.out _ _) | (go_at_call 36; exact HI.out _ _) | (go_at_call 35; exact HX.out _ _)))
  refine wpQuiet_nil ?_
  intro w2 hw'
  obtain ⟨⟨dq, osq⟩, hw''⟩ := hw'
  have hb2 : Below w1.heap.size w1 w2 := hw'' ▸ below_regrown _ _ _
  clear hw'' k0 k1 k2 k3 k4 k5 k6 k7 k8
  have c8' : w2.cell? ⟨w.heap.size, 8, none⟩ = some (.slice da o.da.length dc) := ((bcell hb2).1 _ _ hsz).trans c8
  have hsz2 : w.heap.size < w2.heap.size := Nat.lt_of_lt_of_le hsz hb2.size
  have hbw2 := HBB.out.trans (hb2.mono HBB.out.size)
  clear c0 c1 c2 c3 c4 c5 c6 c7 c8
  generalize hS : methodB o.kind ++ ⟨#[32]⟩ ++ targetB o ++ ⟨#[32]⟩ ++ ⟨#[71, 76, 67, 47, 49]⟩ ++ ⟨#[13, 10]⟩ ++ ⟨#[105, 100, 58, 32]⟩ ++ hexB o.id ++ ⟨#[13, 10]⟩ ++ ⟨#[108, 101, 110, 103, 116, 104, 58, 32]⟩ ++ itoaB (o.da.length : Int) ++ ⟨#[13, 10]⟩ ++ ⟨#[13, 10]⟩ = S
  have HE : Hid (S = headB o (decB o.da.length)) := by unfold Hid; rw [← itoa_dec]; exact hS.symm
  have hSz : S.size ≤ 100000 := by
    rw [← hS]
    simp only [ByteArray.size_append]
    have e1 : (⟨#[32]⟩ : ByteArray).size = 1 := rfl
    have e2 : (⟨#[71, 76, 67, 47, 49]⟩ : ByteArray).size = 5 := rfl
    have e3 : (⟨#[13, 10]⟩ : ByteArray).size = 2 := rfl
    have e4 : (⟨#[105, 100, 58, 32]⟩ : ByteArray).size = 4 := rfl
    have e5 : (⟨#[108, 101, 110, 103, 116, 104, 58, 32]⟩ : ByteArray).size = 8 := rfl
    omega
  clear hS n1 n2 n3 n4 n5 n6 n7 n8 n9 n10 n11 n12
  have hcv := Lib.run_convert_string_bytes (P := Tryz.prog) w2 9 24 5 S (u := .string) Tryz.underlying9 Tryz.underlying24 Tryz.underlying5
  have c8'' : (Lib.bytesWorld w2 5 S).cell? ⟨w.heap.size, 8, none⟩ = some (.slice da o.da.length dc) := (Lib.bytesWorld_old w2 5 S ⟨w.heap.size, 8, none⟩ hsz2).trans c8'
  obtain ⟨v, w3, happ, hrow, hb3⟩ := append_conv w2 S (.slice da o.da.length dc) o.da (HD.out.below hbw2) (by omega)
  generalize Lib.bytesWorld w2 5 S = W3 at *
  have HR := Lib.hid hrow
  have HA := Lib.hid happ
  have HB3 : Hid (Below w.heap.size w w3) := hbw2.trans (hb3.mono hbw2.size)
  clear hrow hb3 hb2 hbw2
  clear happ
  go_wp2_with (at_builtin; refine wpList_append_run rfl _ _ 24 rfl _ _ v w3 rfl rfl HA.out ?_)
  go_ret2
  refine ⟨v, by rw [HH.out]; rfl, ?_, HB3.out⟩
  unfold prL printL
  rw [HH.out, if_pos rfl, ← HE.out]
  exact HR.out

theorem print_any (o : O) (pv dv : Value) (w : World) (hp : RowIn w pv (icells o.ps)) (hd : RowIn w dv (bcells o.da)) (hs : o.bu.size ≤ 1073741824) (hO : OkO o) (hL : Lib0 w) :
    Calls Tryz.prog 13 #[opV o pv dv] w (PrR o w) := by
  cases hc : chkB o with
  | true => exact print_yes o pv dv w hp hd hO hL hc
  | false => exact print_no o pv dv w hp hd hs hc
end Go.Proofs.YtnlooggibopknaaGreatDoor
