/- The walk of the reference's line: the method and the target. Printed by mkline.py. -/
import Derived.Test.YtnlooggibopknaaGreatDoorW37
import Derived.Test.YtnlooggibopknaaGreatDoorW5
import Derived.Test.YtnlooggibopknaaGreatDoorW18
namespace Go.Proofs.YtnlooggibopknaaGreatDoor
open Go.RowKit Go.Sort

set_option maxHeartbeats 400000 in
theorem numbers_none (a : Option Addr) (c : Nat) (w : World) : Calls Tryz.prog 98 #[.slice a 0 c] w fun e w' => e = .returned (.string (commaB [])) ∧ Below w.heap.size w w' := by
  have hcv := convert_own (l := []) (World.ownsRow_nil w w.heap.size 5 1)
  go_enter Tryz.func98, Tryz.ntmps98
  go_wp2
  go_loop [3, 4] (fun v i => i = .int .i64 0 ∧ v = .slice none 0 0) (fun _ _ => 0)
  case atStart => exact ⟨rfl, rfl⟩
  case round =>
    obtain ⟨rfl, rfl⟩ := hrel
    go_wp2
    go_ret
    exact ⟨rfl, Below.refl _ _⟩
/-- What the reference's line takes: an op of a kind, of no great texts. -/
structure LnO (o : O) : Prop where
  k0 : 1 ≤ o.kind
  k1 : o.kind ≤ 10
  bu : o.bu.size ≤ 1000000
  ke : o.ke.size ≤ 1000000
  af : o.af.size ≤ 1000000
  n0 : 0 ≤ o.n
  n1 : o.n ≤ 9223372036854775807
  up : o.up < 2 ^ 64
  id : o.id < 2 ^ 64
  ps : o.ps.length ≤ 1000000
  pe : ∀ p ∈ o.ps, 0 ≤ p ∧ p ≤ 9223372036854775807
theorem numbers_any (ps : List Int) (v : Value) (w : World) (hv : RowIn w v (icells ps)) (hl : ps.length ≤ 1000000) (he : ∀ p ∈ ps, 0 ≤ p ∧ p ≤ 9223372036854775807) :
    Calls Tryz.prog 98 #[v] w fun e w' => e = .returned (.string (commaB ps)) ∧ Below w.heap.size w w' := by
  rcases hv with ⟨a, c, rfl, h0⟩ | ⟨b, o, c, h0, rfl, hb, hc⟩
  · have : ps = [] := by have := congrArg List.length h0; simp [icells] at this; exact this
    subst this
    exact numbers_none a c w
  · have hpl : (icells ps).length = ps.length := by simp [icells]
    rw [hpl]
    exact numbers_row ps b o c w hb hc hl he
def lineB (o : O) : ByteArray := methodB o.kind ++ (sSpace ++ targetB o)
theorem ret_strEq {a b : ByteArray} (h : b = a) : Ending.returned (.string a) = .returned (.string b) := by rw [h]
theorem decB_size (n : Nat) (h : n ≤ 9223372036854775807) : (decB n).size ≤ 19 := by show (List.toArray _).size ≤ 19; rw [List.size_toArray]; exact decDigits_len 18 _ (by omega)
theorem commaB_le {ps : List Int} (h : ps.length ≤ 1000000) (he : ∀ p ∈ ps, 0 ≤ p ∧ p ≤ 9223372036854775807) : (commaB ps).size ≤ 20000000 := by
  have := comL_len ps ps.length h he
  unfold comL at this
  rw [List.take_length] at this
  show (List.toArray _).size ≤ _
  rw [List.size_toArray]
  exact this
theorem escapeR_re {W : World} (s : ByteArray) (hs : s.size ≤ 1073741824) (d : Nat) (os : Array Obj) : Calls Tryz.prog 16 #[.string s] (grow (redrawn W d) os) fun e w'' => e = .returned (.string (escB s)) ∧ ∃ p : Regrown, w'' = grow (redrawn W p.d) p.os := Calls.regrown_of (escapeR_any s _ hs)
theorem decimal_re {W : World} (n : Nat) (hn : n ≤ 9223372036854775807) (d : Nat) (os : Array Obj) : Calls Tryz.prog 38 #[.int .i64 (n : Int)] (grow (redrawn W d) os) fun e w'' => e = .returned (.string (decB n)) ∧ ∃ p : Regrown, w'' = grow (redrawn W p.d) p.os := Calls.regrown_of (decimal_any n _ hn)
theorem hex_re {W : World} (u : Nat) (hu : u < 2 ^ 64) (d : Nat) (os : Array Obj) : Calls Tryz.prog 58 #[.int .u64 (u : Int)] (grow (redrawn W d) os) fun e w'' => e = .returned (.string (hexB u)) ∧ ∃ p : Regrown, w'' = grow (redrawn W p.d) p.os := Calls.regrown_of (hex_any u _ hu)

set_option maxHeartbeats 2000000 in
set_option maxRecDepth 100000 in
theorem line_1 (o : O) (pv dv : Value) (w : World) (hp : RowIn w pv (icells o.ps)) (hk : o.kind = 1) (hS : LnO o) :
    Calls Tryz.prog 74 #[opV o pv dv] w fun e w' => e = .returned (.string (lineB o)) ∧ Below w.heap.size w w' := by
  obtain ⟨n, hn⟩ : ∃ n : Nat, o.n = n := ⟨o.n.toNat, by have := hS.n0; omega⟩
  have HT : Hid (lineB o = methodB 1 ++ (sSpace ++ (sSlash ++ o.bu))) := by unfold Hid lineB; rw [hk]; congr 2; unfold targetB; rw [if_pos (by omega)]
  have hnn : n ≤ 9223372036854775807 := by have := hS.n1; omega
  have z1 := hS.bu
  have z2 := escB_size o.ke
  have z3 := hS.ke
  have z4 := escB_size o.af
  have z5 := hS.af
  have z6 := hexB_size o.up
  have z7 := decB_size n hnn
  have z8 := commaB_le hS.ps hS.pe
  have hx1 : o.ke.size ≤ 1073741824 := by omega
  have hx2 : o.af.size ≤ 1073741824 := by omega
  have hu := hS.up
  have HPN := Lib.hid hp
  have HS := Lib.hid hS
  have HN := Lib.hid hn
  have s0 : ¬ 9223372036854775807 < 1 + o.bu.size := by omega
  have s1 : ¬ 9223372036854775807 < 1 + o.bu.size + 1 := by omega
  have s2 : ¬ 9223372036854775807 < 1 + o.bu.size + 1 + (escB o.ke).size := by omega
  have s3 : ¬ 9223372036854775807 < 9 + (hexB o.up).size := by omega
  have s4 : ¬ 9223372036854775807 < 4 + (1 + o.bu.size) := by omega
  have q1 : (o.kind == 1) = true := by rw [hk]; rfl
  have q2 : (o.kind == 2) = false := by rw [hk]; rfl
  have q3 : (o.kind == 3) = false := by rw [hk]; rfl
  have q4 : (o.kind == 4) = false := by rw [hk]; rfl
  have q5 : (o.kind == 5) = false := by rw [hk]; rfl
  have q6 : (o.kind == 6) = false := by rw [hk]; rfl
  have q7 : (o.kind == 7) = false := by rw [hk]; rfl
  have q8 : (o.kind == 8) = false := by rw [hk]; rfl
  have q9 : (o.kind == 9) = false := by rw [hk]; rfl
  have q10 : (o.kind == 10) = false := by rw [hk]; rfl
  have HO : Hid (opV o pv dv = .agg #[.int .u64 o.id, .int .i64 o.kind, .string o.bu, .string o.ke, .string o.af, .int .i64 (n : Int), .int .u64 o.up, pv, dv]) := by unfold Hid opV; rw [hn]
  rw [HO.out]
  clear hp hS hk hn z1 z2 z3 z4 z5 z6 z7 z8
  go_enter Tryz.func74, Tryz.ntmps74
  go_wp2_with fail
  refine (escapeR_any o.ke _ hx1).mono ?_
  rintro e w1 ⟨rfl, hb1⟩
  have c1 : w1.cell? ⟨w.heap.size, 1, none⟩ = some (.int .i64 o.kind) := op_cells hb1 1 _ rfl
  have c6 : w1.cell? ⟨w.heap.size, 6, none⟩ = some (.int .u64 o.up) := op_cells hb1 6 _ rfl
  have HB1 := Lib.hid (below_box hb1)
  have HZ1 : Hid (w.heap.size < w1.heap.size) := by unfold Hid; have := hb1.size; rw [World.size_alloc] at this; omega
  have K3 : Hid (w1.cell? ⟨w.heap.size, 3, none⟩ = some (.string o.ke)) := op_cells hb1 3 _ rfl
  have K4 : Hid (w1.cell? ⟨w.heap.size, 4, none⟩ = some (.string o.af)) := op_cells hb1 4 _ rfl
  have K5 : Hid (w1.cell? ⟨w.heap.size, 5, none⟩ = some (.int .i64 (n : Int))) := op_cells hb1 5 _ rfl
  have K7 : Hid (w1.cell? ⟨w.heap.size, 7, none⟩ = some pv) := op_cells hb1 7 _ rfl
  clear hb1
  go_wp2_with fail
  refine (hex_any o.up _ hu).mono ?_
  rintro e w2 ⟨rfl, hb2⟩
  have d1 : w2.cell? ⟨w.heap.size, 1, none⟩ = some (.int .i64 o.kind) := ((bcell hb2).1 _ _ HZ1.out).trans c1
  have d3 : w2.cell? ⟨w.heap.size, 3, none⟩ = some (.string o.ke) := ((bcell hb2).1 _ _ HZ1.out).trans K3.out
  have d4 : w2.cell? ⟨w.heap.size, 4, none⟩ = some (.string o.af) := ((bcell hb2).1 _ _ HZ1.out).trans K4.out
  have d5 : w2.cell? ⟨w.heap.size, 5, none⟩ = some (.int .i64 (n : Int)) := ((bcell hb2).1 _ _ HZ1.out).trans K5.out
  have d7 : w2.cell? ⟨w.heap.size, 7, none⟩ = some pv := ((bcell hb2).1 _ _ HZ1.out).trans K7.out
  have HB2 : Hid (Below w.heap.size w w2) := HB1.out.trans (hb2.mono HB1.out.size)
  clear hb2 c1 c6
  go_wp2
  go_ret
  exact ⟨ret_strEq (by rw [HT.out]; (try simp only [ba_assoc]); rfl), HB2.out⟩

set_option maxHeartbeats 2000000 in
set_option maxRecDepth 100000 in
theorem line_2 (o : O) (pv dv : Value) (w : World) (hp : RowIn w pv (icells o.ps)) (hk : o.kind = 2) (hS : LnO o) :
    Calls Tryz.prog 74 #[opV o pv dv] w fun e w' => e = .returned (.string (lineB o)) ∧ Below w.heap.size w w' := by
  obtain ⟨n, hn⟩ : ∃ n : Nat, o.n = n := ⟨o.n.toNat, by have := hS.n0; omega⟩
  have HT : Hid (lineB o = methodB 2 ++ (sSpace ++ (sSlash ++ o.bu))) := by unfold Hid lineB; rw [hk]; congr 2; unfold targetB; rw [if_pos (by omega)]
  have hnn : n ≤ 9223372036854775807 := by have := hS.n1; omega
  have z1 := hS.bu
  have z2 := escB_size o.ke
  have z3 := hS.ke
  have z4 := escB_size o.af
  have z5 := hS.af
  have z6 := hexB_size o.up
  have z7 := decB_size n hnn
  have z8 := commaB_le hS.ps hS.pe
  have hx1 : o.ke.size ≤ 1073741824 := by omega
  have hx2 : o.af.size ≤ 1073741824 := by omega
  have hu := hS.up
  have HPN := Lib.hid hp
  have HS := Lib.hid hS
  have HN := Lib.hid hn
  have s0 : ¬ 9223372036854775807 < 1 + o.bu.size := by omega
  have s1 : ¬ 9223372036854775807 < 1 + o.bu.size + 1 := by omega
  have s2 : ¬ 9223372036854775807 < 1 + o.bu.size + 1 + (escB o.ke).size := by omega
  have s3 : ¬ 9223372036854775807 < 9 + (hexB o.up).size := by omega
  have s4 : ¬ 9223372036854775807 < 7 + (1 + o.bu.size) := by omega
  have q1 : (o.kind == 1) = false := by rw [hk]; rfl
  have q2 : (o.kind == 2) = true := by rw [hk]; rfl
  have q3 : (o.kind == 3) = false := by rw [hk]; rfl
  have q4 : (o.kind == 4) = false := by rw [hk]; rfl
  have q5 : (o.kind == 5) = false := by rw [hk]; rfl
  have q6 : (o.kind == 6) = false := by rw [hk]; rfl
  have q7 : (o.kind == 7) = false := by rw [hk]; rfl
  have q8 : (o.kind == 8) = false := by rw [hk]; rfl
  have q9 : (o.kind == 9) = false := by rw [hk]; rfl
  have q10 : (o.kind == 10) = false := by rw [hk]; rfl
  have HO : Hid (opV o pv dv = .agg #[.int .u64 o.id, .int .i64 o.kind, .string o.bu, .string o.ke, .string o.af, .int .i64 (n : Int), .int .u64 o.up, pv, dv]) := by unfold Hid opV; rw [hn]
  rw [HO.out]
  clear hp hS hk hn z1 z2 z3 z4 z5 z6 z7 z8
  go_enter Tryz.func74, Tryz.ntmps74
  go_wp2_with fail
  refine (escapeR_any o.ke _ hx1).mono ?_
  rintro e w1 ⟨rfl, hb1⟩
  have c1 : w1.cell? ⟨w.heap.size, 1, none⟩ = some (.int .i64 o.kind) := op_cells hb1 1 _ rfl
  have c6 : w1.cell? ⟨w.heap.size, 6, none⟩ = some (.int .u64 o.up) := op_cells hb1 6 _ rfl
  have HB1 := Lib.hid (below_box hb1)
  have HZ1 : Hid (w.heap.size < w1.heap.size) := by unfold Hid; have := hb1.size; rw [World.size_alloc] at this; omega
  have K3 : Hid (w1.cell? ⟨w.heap.size, 3, none⟩ = some (.string o.ke)) := op_cells hb1 3 _ rfl
  have K4 : Hid (w1.cell? ⟨w.heap.size, 4, none⟩ = some (.string o.af)) := op_cells hb1 4 _ rfl
  have K5 : Hid (w1.cell? ⟨w.heap.size, 5, none⟩ = some (.int .i64 (n : Int))) := op_cells hb1 5 _ rfl
  have K7 : Hid (w1.cell? ⟨w.heap.size, 7, none⟩ = some pv) := op_cells hb1 7 _ rfl
  clear hb1
  go_wp2_with fail
  refine (hex_any o.up _ hu).mono ?_
  rintro e w2 ⟨rfl, hb2⟩
  have d1 : w2.cell? ⟨w.heap.size, 1, none⟩ = some (.int .i64 o.kind) := ((bcell hb2).1 _ _ HZ1.out).trans c1
  have d3 : w2.cell? ⟨w.heap.size, 3, none⟩ = some (.string o.ke) := ((bcell hb2).1 _ _ HZ1.out).trans K3.out
  have d4 : w2.cell? ⟨w.heap.size, 4, none⟩ = some (.string o.af) := ((bcell hb2).1 _ _ HZ1.out).trans K4.out
  have d5 : w2.cell? ⟨w.heap.size, 5, none⟩ = some (.int .i64 (n : Int)) := ((bcell hb2).1 _ _ HZ1.out).trans K5.out
  have d7 : w2.cell? ⟨w.heap.size, 7, none⟩ = some pv := ((bcell hb2).1 _ _ HZ1.out).trans K7.out
  have HB2 : Hid (Below w.heap.size w w2) := HB1.out.trans (hb2.mono HB1.out.size)
  clear hb2 c1 c6
  go_wp2
  go_ret
  exact ⟨ret_strEq (by rw [HT.out]; (try simp only [ba_assoc]); rfl), HB2.out⟩

set_option maxHeartbeats 2000000 in
set_option maxRecDepth 100000 in
theorem line_3 (o : O) (pv dv : Value) (w : World) (hp : RowIn w pv (icells o.ps)) (hk : o.kind = 3) (hS : LnO o) :
    Calls Tryz.prog 74 #[opV o pv dv] w fun e w' => e = .returned (.string (lineB o)) ∧ Below w.heap.size w w' := by
  obtain ⟨n, hn⟩ : ∃ n : Nat, o.n = n := ⟨o.n.toNat, by have := hS.n0; omega⟩
  have HT : Hid (lineB o = methodB 3 ++ (sSpace ++ (sSlash ++ o.bu ++ sSlash ++ escB o.ke))) := by unfold Hid lineB; rw [hk]; congr 2; unfold targetB; rw [if_neg (by omega), if_neg (by omega), if_neg (by omega), if_neg (by omega), if_neg (by omega)]
  have hnn : n ≤ 9223372036854775807 := by have := hS.n1; omega
  have z1 := hS.bu
  have z2 := escB_size o.ke
  have z3 := hS.ke
  have z4 := escB_size o.af
  have z5 := hS.af
  have z6 := hexB_size o.up
  have z7 := decB_size n hnn
  have z8 := commaB_le hS.ps hS.pe
  have hx1 : o.ke.size ≤ 1073741824 := by omega
  have hx2 : o.af.size ≤ 1073741824 := by omega
  have hu := hS.up
  have HPN := Lib.hid hp
  have HS := Lib.hid hS
  have HN := Lib.hid hn
  have s0 : ¬ 9223372036854775807 < 1 + o.bu.size := by omega
  have s1 : ¬ 9223372036854775807 < 1 + o.bu.size + 1 := by omega
  have s2 : ¬ 9223372036854775807 < 1 + o.bu.size + 1 + (escB o.ke).size := by omega
  have s3 : ¬ 9223372036854775807 < 9 + (hexB o.up).size := by omega
  have s4 : ¬ 9223372036854775807 < 4 + (1 + o.bu.size + 1 + (escB o.ke).size) := by omega
  have q1 : (o.kind == 1) = false := by rw [hk]; rfl
  have q2 : (o.kind == 2) = false := by rw [hk]; rfl
  have q3 : (o.kind == 3) = true := by rw [hk]; rfl
  have q4 : (o.kind == 4) = false := by rw [hk]; rfl
  have q5 : (o.kind == 5) = false := by rw [hk]; rfl
  have q6 : (o.kind == 6) = false := by rw [hk]; rfl
  have q7 : (o.kind == 7) = false := by rw [hk]; rfl
  have q8 : (o.kind == 8) = false := by rw [hk]; rfl
  have q9 : (o.kind == 9) = false := by rw [hk]; rfl
  have q10 : (o.kind == 10) = false := by rw [hk]; rfl
  have HO : Hid (opV o pv dv = .agg #[.int .u64 o.id, .int .i64 o.kind, .string o.bu, .string o.ke, .string o.af, .int .i64 (n : Int), .int .u64 o.up, pv, dv]) := by unfold Hid opV; rw [hn]
  rw [HO.out]
  clear hp hS hk hn z1 z2 z3 z4 z5 z6 z7 z8
  go_enter Tryz.func74, Tryz.ntmps74
  go_wp2_with fail
  refine (escapeR_any o.ke _ hx1).mono ?_
  rintro e w1 ⟨rfl, hb1⟩
  have c1 : w1.cell? ⟨w.heap.size, 1, none⟩ = some (.int .i64 o.kind) := op_cells hb1 1 _ rfl
  have c6 : w1.cell? ⟨w.heap.size, 6, none⟩ = some (.int .u64 o.up) := op_cells hb1 6 _ rfl
  have HB1 := Lib.hid (below_box hb1)
  have HZ1 : Hid (w.heap.size < w1.heap.size) := by unfold Hid; have := hb1.size; rw [World.size_alloc] at this; omega
  have K3 : Hid (w1.cell? ⟨w.heap.size, 3, none⟩ = some (.string o.ke)) := op_cells hb1 3 _ rfl
  have K4 : Hid (w1.cell? ⟨w.heap.size, 4, none⟩ = some (.string o.af)) := op_cells hb1 4 _ rfl
  have K5 : Hid (w1.cell? ⟨w.heap.size, 5, none⟩ = some (.int .i64 (n : Int))) := op_cells hb1 5 _ rfl
  have K7 : Hid (w1.cell? ⟨w.heap.size, 7, none⟩ = some pv) := op_cells hb1 7 _ rfl
  clear hb1
  go_wp2_with fail
  refine (hex_any o.up _ hu).mono ?_
  rintro e w2 ⟨rfl, hb2⟩
  have d1 : w2.cell? ⟨w.heap.size, 1, none⟩ = some (.int .i64 o.kind) := ((bcell hb2).1 _ _ HZ1.out).trans c1
  have d3 : w2.cell? ⟨w.heap.size, 3, none⟩ = some (.string o.ke) := ((bcell hb2).1 _ _ HZ1.out).trans K3.out
  have d4 : w2.cell? ⟨w.heap.size, 4, none⟩ = some (.string o.af) := ((bcell hb2).1 _ _ HZ1.out).trans K4.out
  have d5 : w2.cell? ⟨w.heap.size, 5, none⟩ = some (.int .i64 (n : Int)) := ((bcell hb2).1 _ _ HZ1.out).trans K5.out
  have d7 : w2.cell? ⟨w.heap.size, 7, none⟩ = some pv := ((bcell hb2).1 _ _ HZ1.out).trans K7.out
  have HB2 : Hid (Below w.heap.size w w2) := HB1.out.trans (hb2.mono HB1.out.size)
  clear hb2 c1 c6
  go_wp2
  go_ret
  exact ⟨ret_strEq (by rw [HT.out]; (try simp only [ba_assoc]); rfl), HB2.out⟩

set_option maxHeartbeats 2000000 in
set_option maxRecDepth 100000 in
theorem line_4 (o : O) (pv dv : Value) (w : World) (hp : RowIn w pv (icells o.ps)) (hk : o.kind = 4) (hS : LnO o) :
    Calls Tryz.prog 74 #[opV o pv dv] w fun e w' => e = .returned (.string (lineB o)) ∧ Below w.heap.size w w' := by
  obtain ⟨n, hn⟩ : ∃ n : Nat, o.n = n := ⟨o.n.toNat, by have := hS.n0; omega⟩
  have HT : Hid (lineB o = methodB 4 ++ (sSpace ++ (sSlash ++ o.bu ++ sSlash ++ escB o.ke))) := by unfold Hid lineB; rw [hk]; congr 2; unfold targetB; rw [if_neg (by omega), if_neg (by omega), if_neg (by omega), if_neg (by omega), if_neg (by omega)]
  have hnn : n ≤ 9223372036854775807 := by have := hS.n1; omega
  have z1 := hS.bu
  have z2 := escB_size o.ke
  have z3 := hS.ke
  have z4 := escB_size o.af
  have z5 := hS.af
  have z6 := hexB_size o.up
  have z7 := decB_size n hnn
  have z8 := commaB_le hS.ps hS.pe
  have hx1 : o.ke.size ≤ 1073741824 := by omega
  have hx2 : o.af.size ≤ 1073741824 := by omega
  have hu := hS.up
  have HPN := Lib.hid hp
  have HS := Lib.hid hS
  have HN := Lib.hid hn
  have s0 : ¬ 9223372036854775807 < 1 + o.bu.size := by omega
  have s1 : ¬ 9223372036854775807 < 1 + o.bu.size + 1 := by omega
  have s2 : ¬ 9223372036854775807 < 1 + o.bu.size + 1 + (escB o.ke).size := by omega
  have s3 : ¬ 9223372036854775807 < 9 + (hexB o.up).size := by omega
  have s4 : ¬ 9223372036854775807 < 4 + (1 + o.bu.size + 1 + (escB o.ke).size) := by omega
  have q1 : (o.kind == 1) = false := by rw [hk]; rfl
  have q2 : (o.kind == 2) = false := by rw [hk]; rfl
  have q3 : (o.kind == 3) = false := by rw [hk]; rfl
  have q4 : (o.kind == 4) = true := by rw [hk]; rfl
  have q5 : (o.kind == 5) = false := by rw [hk]; rfl
  have q6 : (o.kind == 6) = false := by rw [hk]; rfl
  have q7 : (o.kind == 7) = false := by rw [hk]; rfl
  have q8 : (o.kind == 8) = false := by rw [hk]; rfl
  have q9 : (o.kind == 9) = false := by rw [hk]; rfl
  have q10 : (o.kind == 10) = false := by rw [hk]; rfl
  have HO : Hid (opV o pv dv = .agg #[.int .u64 o.id, .int .i64 o.kind, .string o.bu, .string o.ke, .string o.af, .int .i64 (n : Int), .int .u64 o.up, pv, dv]) := by unfold Hid opV; rw [hn]
  rw [HO.out]
  clear hp hS hk hn z1 z2 z3 z4 z5 z6 z7 z8
  go_enter Tryz.func74, Tryz.ntmps74
  go_wp2_with fail
  refine (escapeR_any o.ke _ hx1).mono ?_
  rintro e w1 ⟨rfl, hb1⟩
  have c1 : w1.cell? ⟨w.heap.size, 1, none⟩ = some (.int .i64 o.kind) := op_cells hb1 1 _ rfl
  have c6 : w1.cell? ⟨w.heap.size, 6, none⟩ = some (.int .u64 o.up) := op_cells hb1 6 _ rfl
  have HB1 := Lib.hid (below_box hb1)
  have HZ1 : Hid (w.heap.size < w1.heap.size) := by unfold Hid; have := hb1.size; rw [World.size_alloc] at this; omega
  have K3 : Hid (w1.cell? ⟨w.heap.size, 3, none⟩ = some (.string o.ke)) := op_cells hb1 3 _ rfl
  have K4 : Hid (w1.cell? ⟨w.heap.size, 4, none⟩ = some (.string o.af)) := op_cells hb1 4 _ rfl
  have K5 : Hid (w1.cell? ⟨w.heap.size, 5, none⟩ = some (.int .i64 (n : Int))) := op_cells hb1 5 _ rfl
  have K7 : Hid (w1.cell? ⟨w.heap.size, 7, none⟩ = some pv) := op_cells hb1 7 _ rfl
  clear hb1
  go_wp2_with fail
  refine (hex_any o.up _ hu).mono ?_
  rintro e w2 ⟨rfl, hb2⟩
  have d1 : w2.cell? ⟨w.heap.size, 1, none⟩ = some (.int .i64 o.kind) := ((bcell hb2).1 _ _ HZ1.out).trans c1
  have d3 : w2.cell? ⟨w.heap.size, 3, none⟩ = some (.string o.ke) := ((bcell hb2).1 _ _ HZ1.out).trans K3.out
  have d4 : w2.cell? ⟨w.heap.size, 4, none⟩ = some (.string o.af) := ((bcell hb2).1 _ _ HZ1.out).trans K4.out
  have d5 : w2.cell? ⟨w.heap.size, 5, none⟩ = some (.int .i64 (n : Int)) := ((bcell hb2).1 _ _ HZ1.out).trans K5.out
  have d7 : w2.cell? ⟨w.heap.size, 7, none⟩ = some pv := ((bcell hb2).1 _ _ HZ1.out).trans K7.out
  have HB2 : Hid (Below w.heap.size w w2) := HB1.out.trans (hb2.mono HB1.out.size)
  clear hb2 c1 c6
  go_wp2
  go_ret
  exact ⟨ret_strEq (by rw [HT.out]; (try simp only [ba_assoc]); rfl), HB2.out⟩

set_option maxHeartbeats 2000000 in
set_option maxRecDepth 100000 in
theorem line_5 (o : O) (pv dv : Value) (w : World) (hp : RowIn w pv (icells o.ps)) (hk : o.kind = 5) (hS : LnO o) :
    Calls Tryz.prog 74 #[opV o pv dv] w fun e w' => e = .returned (.string (lineB o)) ∧ Below w.heap.size w w' := by
  obtain ⟨n, hn⟩ : ∃ n : Nat, o.n = n := ⟨o.n.toNat, by have := hS.n0; omega⟩
  have HT : Hid (lineB o = methodB 5 ++ (sSpace ++ (sSlash ++ o.bu ++ sSlash ++ escB o.ke))) := by unfold Hid lineB; rw [hk]; congr 2; unfold targetB; rw [if_neg (by omega), if_neg (by omega), if_neg (by omega), if_neg (by omega), if_neg (by omega)]
  have hnn : n ≤ 9223372036854775807 := by have := hS.n1; omega
  have z1 := hS.bu
  have z2 := escB_size o.ke
  have z3 := hS.ke
  have z4 := escB_size o.af
  have z5 := hS.af
  have z6 := hexB_size o.up
  have z7 := decB_size n hnn
  have z8 := commaB_le hS.ps hS.pe
  have hx1 : o.ke.size ≤ 1073741824 := by omega
  have hx2 : o.af.size ≤ 1073741824 := by omega
  have hu := hS.up
  have HPN := Lib.hid hp
  have HS := Lib.hid hS
  have HN := Lib.hid hn
  have s0 : ¬ 9223372036854775807 < 1 + o.bu.size := by omega
  have s1 : ¬ 9223372036854775807 < 1 + o.bu.size + 1 := by omega
  have s2 : ¬ 9223372036854775807 < 1 + o.bu.size + 1 + (escB o.ke).size := by omega
  have s3 : ¬ 9223372036854775807 < 9 + (hexB o.up).size := by omega
  have s4 : ¬ 9223372036854775807 < 7 + (1 + o.bu.size + 1 + (escB o.ke).size) := by omega
  have q1 : (o.kind == 1) = false := by rw [hk]; rfl
  have q2 : (o.kind == 2) = false := by rw [hk]; rfl
  have q3 : (o.kind == 3) = false := by rw [hk]; rfl
  have q4 : (o.kind == 4) = false := by rw [hk]; rfl
  have q5 : (o.kind == 5) = true := by rw [hk]; rfl
  have q6 : (o.kind == 6) = false := by rw [hk]; rfl
  have q7 : (o.kind == 7) = false := by rw [hk]; rfl
  have q8 : (o.kind == 8) = false := by rw [hk]; rfl
  have q9 : (o.kind == 9) = false := by rw [hk]; rfl
  have q10 : (o.kind == 10) = false := by rw [hk]; rfl
  have HO : Hid (opV o pv dv = .agg #[.int .u64 o.id, .int .i64 o.kind, .string o.bu, .string o.ke, .string o.af, .int .i64 (n : Int), .int .u64 o.up, pv, dv]) := by unfold Hid opV; rw [hn]
  rw [HO.out]
  clear hp hS hk hn z1 z2 z3 z4 z5 z6 z7 z8
  go_enter Tryz.func74, Tryz.ntmps74
  go_wp2_with fail
  refine (escapeR_any o.ke _ hx1).mono ?_
  rintro e w1 ⟨rfl, hb1⟩
  have c1 : w1.cell? ⟨w.heap.size, 1, none⟩ = some (.int .i64 o.kind) := op_cells hb1 1 _ rfl
  have c6 : w1.cell? ⟨w.heap.size, 6, none⟩ = some (.int .u64 o.up) := op_cells hb1 6 _ rfl
  have HB1 := Lib.hid (below_box hb1)
  have HZ1 : Hid (w.heap.size < w1.heap.size) := by unfold Hid; have := hb1.size; rw [World.size_alloc] at this; omega
  have K3 : Hid (w1.cell? ⟨w.heap.size, 3, none⟩ = some (.string o.ke)) := op_cells hb1 3 _ rfl
  have K4 : Hid (w1.cell? ⟨w.heap.size, 4, none⟩ = some (.string o.af)) := op_cells hb1 4 _ rfl
  have K5 : Hid (w1.cell? ⟨w.heap.size, 5, none⟩ = some (.int .i64 (n : Int))) := op_cells hb1 5 _ rfl
  have K7 : Hid (w1.cell? ⟨w.heap.size, 7, none⟩ = some pv) := op_cells hb1 7 _ rfl
  clear hb1
  go_wp2_with fail
  refine (hex_any o.up _ hu).mono ?_
  rintro e w2 ⟨rfl, hb2⟩
  have d1 : w2.cell? ⟨w.heap.size, 1, none⟩ = some (.int .i64 o.kind) := ((bcell hb2).1 _ _ HZ1.out).trans c1
  have d3 : w2.cell? ⟨w.heap.size, 3, none⟩ = some (.string o.ke) := ((bcell hb2).1 _ _ HZ1.out).trans K3.out
  have d4 : w2.cell? ⟨w.heap.size, 4, none⟩ = some (.string o.af) := ((bcell hb2).1 _ _ HZ1.out).trans K4.out
  have d5 : w2.cell? ⟨w.heap.size, 5, none⟩ = some (.int .i64 (n : Int)) := ((bcell hb2).1 _ _ HZ1.out).trans K5.out
  have d7 : w2.cell? ⟨w.heap.size, 7, none⟩ = some pv := ((bcell hb2).1 _ _ HZ1.out).trans K7.out
  have HB2 : Hid (Below w.heap.size w w2) := HB1.out.trans (hb2.mono HB1.out.size)
  clear hb2 c1 c6
  go_wp2
  go_ret
  exact ⟨ret_strEq (by rw [HT.out]; (try simp only [ba_assoc]); rfl), HB2.out⟩

set_option maxHeartbeats 2000000 in
set_option maxRecDepth 100000 in
theorem line_6 (o : O) (pv dv : Value) (w : World) (hp : RowIn w pv (icells o.ps)) (hk : o.kind = 6) (hS : LnO o) :
    Calls Tryz.prog 74 #[opV o pv dv] w fun e w' => e = .returned (.string (lineB o)) ∧ Below w.heap.size w w' := by
  obtain ⟨n, hn⟩ : ∃ n : Nat, o.n = n := ⟨o.n.toNat, by have := hS.n0; omega⟩
  have HT : Hid (lineB o = methodB 6 ++ (sSpace ++ (sSlash ++ o.bu ++ sPrefix ++ escB o.ke ++ sAfter ++ escB o.af ++ sN ++ itoaB o.n))) := by unfold Hid lineB; rw [hk]; congr 2; unfold targetB; rw [if_neg (by omega), if_pos hk]
  have hnn : n ≤ 9223372036854775807 := by have := hS.n1; omega
  have z1 := hS.bu
  have z2 := escB_size o.ke
  have z3 := hS.ke
  have z4 := escB_size o.af
  have z5 := hS.af
  have z6 := hexB_size o.up
  have z7 := decB_size n hnn
  have z8 := commaB_le hS.ps hS.pe
  have hx1 : o.ke.size ≤ 1073741824 := by omega
  have hx2 : o.af.size ≤ 1073741824 := by omega
  have hu := hS.up
  have HPN := Lib.hid hp
  have HS := Lib.hid hS
  have HN := Lib.hid hn
  have s0 : ¬ 9223372036854775807 < 1 + o.bu.size := by omega
  have s1 : ¬ 9223372036854775807 < 1 + o.bu.size + 1 := by omega
  have s2 : ¬ 9223372036854775807 < 1 + o.bu.size + 1 + (escB o.ke).size := by omega
  have s3 : ¬ 9223372036854775807 < 9 + (hexB o.up).size := by omega
  have s4 : ¬ 9223372036854775807 < 4 + (1 + o.bu.size) := by omega
  have s5 : ¬ 9223372036854775807 < 4 + (1 + o.bu.size) + 8 := by omega
  have s6 : ¬ 9223372036854775807 < 4 + (1 + o.bu.size) + 8 + (escB o.ke).size := by omega
  have s7 : ¬ 9223372036854775807 < 4 + (1 + o.bu.size) + 8 + (escB o.ke).size + 7 := by omega
  have s8 : ¬ 9223372036854775807 < 4 + (1 + o.bu.size) + 8 + (escB o.ke).size + 7 + (escB o.af).size := by omega
  have s9 : ¬ 9223372036854775807 < 4 + (1 + o.bu.size) + 8 + (escB o.ke).size + 7 + (escB o.af).size + 3 := by omega
  have s10 : ¬ 9223372036854775807 < 4 + (1 + o.bu.size) + 8 + (escB o.ke).size + 7 + (escB o.af).size + 3 + (decB n).size := by omega
  have q1 : (o.kind == 1) = false := by rw [hk]; rfl
  have q2 : (o.kind == 2) = false := by rw [hk]; rfl
  have q3 : (o.kind == 3) = false := by rw [hk]; rfl
  have q4 : (o.kind == 4) = false := by rw [hk]; rfl
  have q5 : (o.kind == 5) = false := by rw [hk]; rfl
  have q6 : (o.kind == 6) = true := by rw [hk]; rfl
  have q7 : (o.kind == 7) = false := by rw [hk]; rfl
  have q8 : (o.kind == 8) = false := by rw [hk]; rfl
  have q9 : (o.kind == 9) = false := by rw [hk]; rfl
  have q10 : (o.kind == 10) = false := by rw [hk]; rfl
  have HO : Hid (opV o pv dv = .agg #[.int .u64 o.id, .int .i64 o.kind, .string o.bu, .string o.ke, .string o.af, .int .i64 (n : Int), .int .u64 o.up, pv, dv]) := by unfold Hid opV; rw [hn]
  rw [HO.out]
  clear hp hS hk hn z1 z2 z3 z4 z5 z6 z7 z8
  go_enter Tryz.func74, Tryz.ntmps74
  go_wp2_with fail
  refine (escapeR_any o.ke _ hx1).mono ?_
  rintro e w1 ⟨rfl, hb1⟩
  have c1 : w1.cell? ⟨w.heap.size, 1, none⟩ = some (.int .i64 o.kind) := op_cells hb1 1 _ rfl
  have c6 : w1.cell? ⟨w.heap.size, 6, none⟩ = some (.int .u64 o.up) := op_cells hb1 6 _ rfl
  have HB1 := Lib.hid (below_box hb1)
  have HZ1 : Hid (w.heap.size < w1.heap.size) := by unfold Hid; have := hb1.size; rw [World.size_alloc] at this; omega
  have K3 : Hid (w1.cell? ⟨w.heap.size, 3, none⟩ = some (.string o.ke)) := op_cells hb1 3 _ rfl
  have K4 : Hid (w1.cell? ⟨w.heap.size, 4, none⟩ = some (.string o.af)) := op_cells hb1 4 _ rfl
  have K5 : Hid (w1.cell? ⟨w.heap.size, 5, none⟩ = some (.int .i64 (n : Int))) := op_cells hb1 5 _ rfl
  have K7 : Hid (w1.cell? ⟨w.heap.size, 7, none⟩ = some pv) := op_cells hb1 7 _ rfl
  clear hb1
  go_wp2_with fail
  refine (hex_any o.up _ hu).mono ?_
  rintro e w2 ⟨rfl, hb2⟩
  have d1 : w2.cell? ⟨w.heap.size, 1, none⟩ = some (.int .i64 o.kind) := ((bcell hb2).1 _ _ HZ1.out).trans c1
  have d3 : w2.cell? ⟨w.heap.size, 3, none⟩ = some (.string o.ke) := ((bcell hb2).1 _ _ HZ1.out).trans K3.out
  have d4 : w2.cell? ⟨w.heap.size, 4, none⟩ = some (.string o.af) := ((bcell hb2).1 _ _ HZ1.out).trans K4.out
  have d5 : w2.cell? ⟨w.heap.size, 5, none⟩ = some (.int .i64 (n : Int)) := ((bcell hb2).1 _ _ HZ1.out).trans K5.out
  have d7 : w2.cell? ⟨w.heap.size, 7, none⟩ = some pv := ((bcell hb2).1 _ _ HZ1.out).trans K7.out
  have HB2 : Hid (Below w.heap.size w w2) := HB1.out.trans (hb2.mono HB1.out.size)
  clear hb2 c1 c6
  have k3 := cell_regrown d3
  have k4 := cell_regrown d4
  have k5 := cell_regrown d5
  go_wp2
  refine wp_region_quiet_below (by kernel_rfl) (by kernel_rfl) ?_
  repeat (quiet_step (first | (go_at_call 38; exact decimal_re _ hnn _ _) | (go_at_call 16; exact escapeR_re _ (by assumption) _ _)))
  refine wpQuiet_nil ?_
  intro w3 hw'
  obtain ⟨⟨dq, osq⟩, hw''⟩ := hw'
  have HB3 : Hid (Below w2.heap.size w2 w3) := hw'' ▸ below_regrown _ _ _
  clear hw'' k3 k4 k5
  go_wp2
  go_ret
  exact ⟨ret_strEq (by rw [HT.out, itoaB_nat _ HS.out.n0, show o.n.toNat = n from by have := HN.out; omega]; (try simp only [ba_assoc]); rfl), HB2.out.trans (HB3.out.mono HB2.out.size)⟩

set_option maxHeartbeats 2000000 in
set_option maxRecDepth 100000 in
theorem line_7 (o : O) (pv dv : Value) (w : World) (hp : RowIn w pv (icells o.ps)) (hk : o.kind = 7) (hS : LnO o) :
    Calls Tryz.prog 74 #[opV o pv dv] w fun e w' => e = .returned (.string (lineB o)) ∧ Below w.heap.size w w' := by
  obtain ⟨n, hn⟩ : ∃ n : Nat, o.n = n := ⟨o.n.toNat, by have := hS.n0; omega⟩
  have HT : Hid (lineB o = methodB 7 ++ (sSpace ++ (sSlash ++ o.bu ++ sSlash ++ escB o.ke))) := by unfold Hid lineB; rw [hk]; congr 2; unfold targetB; rw [if_neg (by omega), if_neg (by omega), if_neg (by omega), if_neg (by omega), if_neg (by omega)]
  have hnn : n ≤ 9223372036854775807 := by have := hS.n1; omega
  have z1 := hS.bu
  have z2 := escB_size o.ke
  have z3 := hS.ke
  have z4 := escB_size o.af
  have z5 := hS.af
  have z6 := hexB_size o.up
  have z7 := decB_size n hnn
  have z8 := commaB_le hS.ps hS.pe
  have hx1 : o.ke.size ≤ 1073741824 := by omega
  have hx2 : o.af.size ≤ 1073741824 := by omega
  have hu := hS.up
  have HPN := Lib.hid hp
  have HS := Lib.hid hS
  have HN := Lib.hid hn
  have s0 : ¬ 9223372036854775807 < 1 + o.bu.size := by omega
  have s1 : ¬ 9223372036854775807 < 1 + o.bu.size + 1 := by omega
  have s2 : ¬ 9223372036854775807 < 1 + o.bu.size + 1 + (escB o.ke).size := by omega
  have s3 : ¬ 9223372036854775807 < 9 + (hexB o.up).size := by omega
  have s4 : ¬ 9223372036854775807 < 5 + (1 + o.bu.size + 1 + (escB o.ke).size) := by omega
  have q1 : (o.kind == 1) = false := by rw [hk]; rfl
  have q2 : (o.kind == 2) = false := by rw [hk]; rfl
  have q3 : (o.kind == 3) = false := by rw [hk]; rfl
  have q4 : (o.kind == 4) = false := by rw [hk]; rfl
  have q5 : (o.kind == 5) = false := by rw [hk]; rfl
  have q6 : (o.kind == 6) = false := by rw [hk]; rfl
  have q7 : (o.kind == 7) = true := by rw [hk]; rfl
  have q8 : (o.kind == 8) = false := by rw [hk]; rfl
  have q9 : (o.kind == 9) = false := by rw [hk]; rfl
  have q10 : (o.kind == 10) = false := by rw [hk]; rfl
  have HO : Hid (opV o pv dv = .agg #[.int .u64 o.id, .int .i64 o.kind, .string o.bu, .string o.ke, .string o.af, .int .i64 (n : Int), .int .u64 o.up, pv, dv]) := by unfold Hid opV; rw [hn]
  rw [HO.out]
  clear hp hS hk hn z1 z2 z3 z4 z5 z6 z7 z8
  go_enter Tryz.func74, Tryz.ntmps74
  go_wp2_with fail
  refine (escapeR_any o.ke _ hx1).mono ?_
  rintro e w1 ⟨rfl, hb1⟩
  have c1 : w1.cell? ⟨w.heap.size, 1, none⟩ = some (.int .i64 o.kind) := op_cells hb1 1 _ rfl
  have c6 : w1.cell? ⟨w.heap.size, 6, none⟩ = some (.int .u64 o.up) := op_cells hb1 6 _ rfl
  have HB1 := Lib.hid (below_box hb1)
  have HZ1 : Hid (w.heap.size < w1.heap.size) := by unfold Hid; have := hb1.size; rw [World.size_alloc] at this; omega
  have K3 : Hid (w1.cell? ⟨w.heap.size, 3, none⟩ = some (.string o.ke)) := op_cells hb1 3 _ rfl
  have K4 : Hid (w1.cell? ⟨w.heap.size, 4, none⟩ = some (.string o.af)) := op_cells hb1 4 _ rfl
  have K5 : Hid (w1.cell? ⟨w.heap.size, 5, none⟩ = some (.int .i64 (n : Int))) := op_cells hb1 5 _ rfl
  have K7 : Hid (w1.cell? ⟨w.heap.size, 7, none⟩ = some pv) := op_cells hb1 7 _ rfl
  clear hb1
  go_wp2_with fail
  refine (hex_any o.up _ hu).mono ?_
  rintro e w2 ⟨rfl, hb2⟩
  have d1 : w2.cell? ⟨w.heap.size, 1, none⟩ = some (.int .i64 o.kind) := ((bcell hb2).1 _ _ HZ1.out).trans c1
  have d3 : w2.cell? ⟨w.heap.size, 3, none⟩ = some (.string o.ke) := ((bcell hb2).1 _ _ HZ1.out).trans K3.out
  have d4 : w2.cell? ⟨w.heap.size, 4, none⟩ = some (.string o.af) := ((bcell hb2).1 _ _ HZ1.out).trans K4.out
  have d5 : w2.cell? ⟨w.heap.size, 5, none⟩ = some (.int .i64 (n : Int)) := ((bcell hb2).1 _ _ HZ1.out).trans K5.out
  have d7 : w2.cell? ⟨w.heap.size, 7, none⟩ = some pv := ((bcell hb2).1 _ _ HZ1.out).trans K7.out
  have HB2 : Hid (Below w.heap.size w w2) := HB1.out.trans (hb2.mono HB1.out.size)
  clear hb2 c1 c6
  go_wp2
  go_ret
  exact ⟨ret_strEq (by rw [HT.out]; (try simp only [ba_assoc]); rfl), HB2.out⟩

set_option maxHeartbeats 2000000 in
set_option maxRecDepth 100000 in
theorem line_8 (o : O) (pv dv : Value) (w : World) (hp : RowIn w pv (icells o.ps)) (hk : o.kind = 8) (hS : LnO o) :
    Calls Tryz.prog 74 #[opV o pv dv] w fun e w' => e = .returned (.string (lineB o)) ∧ Below w.heap.size w w' := by
  obtain ⟨n, hn⟩ : ∃ n : Nat, o.n = n := ⟨o.n.toNat, by have := hS.n0; omega⟩
  have HT : Hid (lineB o = methodB 8 ++ (sSpace ++ (sUpload ++ hexB o.up ++ sPart ++ itoaB o.n))) := by unfold Hid lineB; rw [hk]; congr 2; unfold targetB; rw [if_neg (by omega), if_neg (by omega), if_pos hk]
  have hnn : n ≤ 9223372036854775807 := by have := hS.n1; omega
  have z1 := hS.bu
  have z2 := escB_size o.ke
  have z3 := hS.ke
  have z4 := escB_size o.af
  have z5 := hS.af
  have z6 := hexB_size o.up
  have z7 := decB_size n hnn
  have z8 := commaB_le hS.ps hS.pe
  have hx1 : o.ke.size ≤ 1073741824 := by omega
  have hx2 : o.af.size ≤ 1073741824 := by omega
  have hu := hS.up
  have HPN := Lib.hid hp
  have HS := Lib.hid hS
  have HN := Lib.hid hn
  have s0 : ¬ 9223372036854775807 < 1 + o.bu.size := by omega
  have s1 : ¬ 9223372036854775807 < 1 + o.bu.size + 1 := by omega
  have s2 : ¬ 9223372036854775807 < 1 + o.bu.size + 1 + (escB o.ke).size := by omega
  have s3 : ¬ 9223372036854775807 < 9 + (hexB o.up).size := by omega
  have s4 : ¬ 9223372036854775807 < 4 + (9 + (hexB o.up).size) := by omega
  have s5 : ¬ 9223372036854775807 < 4 + (9 + (hexB o.up).size) + 6 := by omega
  have s6 : ¬ 9223372036854775807 < 4 + (9 + (hexB o.up).size) + 6 + (decB n).size := by omega
  have q1 : (o.kind == 1) = false := by rw [hk]; rfl
  have q2 : (o.kind == 2) = false := by rw [hk]; rfl
  have q3 : (o.kind == 3) = false := by rw [hk]; rfl
  have q4 : (o.kind == 4) = false := by rw [hk]; rfl
  have q5 : (o.kind == 5) = false := by rw [hk]; rfl
  have q6 : (o.kind == 6) = false := by rw [hk]; rfl
  have q7 : (o.kind == 7) = false := by rw [hk]; rfl
  have q8 : (o.kind == 8) = true := by rw [hk]; rfl
  have q9 : (o.kind == 9) = false := by rw [hk]; rfl
  have q10 : (o.kind == 10) = false := by rw [hk]; rfl
  have HO : Hid (opV o pv dv = .agg #[.int .u64 o.id, .int .i64 o.kind, .string o.bu, .string o.ke, .string o.af, .int .i64 (n : Int), .int .u64 o.up, pv, dv]) := by unfold Hid opV; rw [hn]
  rw [HO.out]
  clear hp hS hk hn z1 z2 z3 z4 z5 z6 z7 z8
  go_enter Tryz.func74, Tryz.ntmps74
  go_wp2_with fail
  refine (escapeR_any o.ke _ hx1).mono ?_
  rintro e w1 ⟨rfl, hb1⟩
  have c1 : w1.cell? ⟨w.heap.size, 1, none⟩ = some (.int .i64 o.kind) := op_cells hb1 1 _ rfl
  have c6 : w1.cell? ⟨w.heap.size, 6, none⟩ = some (.int .u64 o.up) := op_cells hb1 6 _ rfl
  have HB1 := Lib.hid (below_box hb1)
  have HZ1 : Hid (w.heap.size < w1.heap.size) := by unfold Hid; have := hb1.size; rw [World.size_alloc] at this; omega
  have K3 : Hid (w1.cell? ⟨w.heap.size, 3, none⟩ = some (.string o.ke)) := op_cells hb1 3 _ rfl
  have K4 : Hid (w1.cell? ⟨w.heap.size, 4, none⟩ = some (.string o.af)) := op_cells hb1 4 _ rfl
  have K5 : Hid (w1.cell? ⟨w.heap.size, 5, none⟩ = some (.int .i64 (n : Int))) := op_cells hb1 5 _ rfl
  have K7 : Hid (w1.cell? ⟨w.heap.size, 7, none⟩ = some pv) := op_cells hb1 7 _ rfl
  clear hb1
  go_wp2_with fail
  refine (hex_any o.up _ hu).mono ?_
  rintro e w2 ⟨rfl, hb2⟩
  have d1 : w2.cell? ⟨w.heap.size, 1, none⟩ = some (.int .i64 o.kind) := ((bcell hb2).1 _ _ HZ1.out).trans c1
  have d3 : w2.cell? ⟨w.heap.size, 3, none⟩ = some (.string o.ke) := ((bcell hb2).1 _ _ HZ1.out).trans K3.out
  have d4 : w2.cell? ⟨w.heap.size, 4, none⟩ = some (.string o.af) := ((bcell hb2).1 _ _ HZ1.out).trans K4.out
  have d5 : w2.cell? ⟨w.heap.size, 5, none⟩ = some (.int .i64 (n : Int)) := ((bcell hb2).1 _ _ HZ1.out).trans K5.out
  have d7 : w2.cell? ⟨w.heap.size, 7, none⟩ = some pv := ((bcell hb2).1 _ _ HZ1.out).trans K7.out
  have HB2 : Hid (Below w.heap.size w w2) := HB1.out.trans (hb2.mono HB1.out.size)
  clear hb2 c1 c6
  go_wp2_with fail
  refine (decimal_any n _ hnn).mono ?_
  rintro e w3 ⟨rfl, hb3⟩
  have HB3 := Lib.hid hb3
  clear hb3
  go_wp2
  go_ret
  exact ⟨ret_strEq (by rw [HT.out, itoaB_nat _ HS.out.n0, show o.n.toNat = n from by have := HN.out; omega]; (try simp only [ba_assoc]); rfl), HB2.out.trans (HB3.out.mono HB2.out.size)⟩

set_option maxHeartbeats 2000000 in
set_option maxRecDepth 100000 in
theorem line_9 (o : O) (pv dv : Value) (w : World) (hp : RowIn w pv (icells o.ps)) (hk : o.kind = 9) (hS : LnO o) :
    Calls Tryz.prog 74 #[opV o pv dv] w fun e w' => e = .returned (.string (lineB o)) ∧ Below w.heap.size w w' := by
  obtain ⟨n, hn⟩ : ∃ n : Nat, o.n = n := ⟨o.n.toNat, by have := hS.n0; omega⟩
  have HT : Hid (lineB o = methodB 9 ++ (sSpace ++ (sUpload ++ hexB o.up ++ sParts ++ commaB o.ps))) := by unfold Hid lineB; rw [hk]; congr 2; unfold targetB; rw [if_neg (by omega), if_neg (by omega), if_neg (by omega), if_pos hk]
  have hnn : n ≤ 9223372036854775807 := by have := hS.n1; omega
  have z1 := hS.bu
  have z2 := escB_size o.ke
  have z3 := hS.ke
  have z4 := escB_size o.af
  have z5 := hS.af
  have z6 := hexB_size o.up
  have z7 := decB_size n hnn
  have z8 := commaB_le hS.ps hS.pe
  have hx1 : o.ke.size ≤ 1073741824 := by omega
  have hx2 : o.af.size ≤ 1073741824 := by omega
  have hu := hS.up
  have HPN := Lib.hid hp
  have HS := Lib.hid hS
  have HN := Lib.hid hn
  have s0 : ¬ 9223372036854775807 < 1 + o.bu.size := by omega
  have s1 : ¬ 9223372036854775807 < 1 + o.bu.size + 1 := by omega
  have s2 : ¬ 9223372036854775807 < 1 + o.bu.size + 1 + (escB o.ke).size := by omega
  have s3 : ¬ 9223372036854775807 < 9 + (hexB o.up).size := by omega
  have s4 : ¬ 9223372036854775807 < 5 + (9 + (hexB o.up).size) := by omega
  have s5 : ¬ 9223372036854775807 < 5 + (9 + (hexB o.up).size) + 7 := by omega
  have s6 : ¬ 9223372036854775807 < 5 + (9 + (hexB o.up).size) + 7 + (commaB o.ps).size := by omega
  have q1 : (o.kind == 1) = false := by rw [hk]; rfl
  have q2 : (o.kind == 2) = false := by rw [hk]; rfl
  have q3 : (o.kind == 3) = false := by rw [hk]; rfl
  have q4 : (o.kind == 4) = false := by rw [hk]; rfl
  have q5 : (o.kind == 5) = false := by rw [hk]; rfl
  have q6 : (o.kind == 6) = false := by rw [hk]; rfl
  have q7 : (o.kind == 7) = false := by rw [hk]; rfl
  have q8 : (o.kind == 8) = false := by rw [hk]; rfl
  have q9 : (o.kind == 9) = true := by rw [hk]; rfl
  have q10 : (o.kind == 10) = false := by rw [hk]; rfl
  have HO : Hid (opV o pv dv = .agg #[.int .u64 o.id, .int .i64 o.kind, .string o.bu, .string o.ke, .string o.af, .int .i64 (n : Int), .int .u64 o.up, pv, dv]) := by unfold Hid opV; rw [hn]
  rw [HO.out]
  clear hp hS hk hn z1 z2 z3 z4 z5 z6 z7 z8
  go_enter Tryz.func74, Tryz.ntmps74
  go_wp2_with fail
  refine (escapeR_any o.ke _ hx1).mono ?_
  rintro e w1 ⟨rfl, hb1⟩
  have c1 : w1.cell? ⟨w.heap.size, 1, none⟩ = some (.int .i64 o.kind) := op_cells hb1 1 _ rfl
  have c6 : w1.cell? ⟨w.heap.size, 6, none⟩ = some (.int .u64 o.up) := op_cells hb1 6 _ rfl
  have HB1 := Lib.hid (below_box hb1)
  have HZ1 : Hid (w.heap.size < w1.heap.size) := by unfold Hid; have := hb1.size; rw [World.size_alloc] at this; omega
  have K3 : Hid (w1.cell? ⟨w.heap.size, 3, none⟩ = some (.string o.ke)) := op_cells hb1 3 _ rfl
  have K4 : Hid (w1.cell? ⟨w.heap.size, 4, none⟩ = some (.string o.af)) := op_cells hb1 4 _ rfl
  have K5 : Hid (w1.cell? ⟨w.heap.size, 5, none⟩ = some (.int .i64 (n : Int))) := op_cells hb1 5 _ rfl
  have K7 : Hid (w1.cell? ⟨w.heap.size, 7, none⟩ = some pv) := op_cells hb1 7 _ rfl
  clear hb1
  go_wp2_with fail
  refine (hex_any o.up _ hu).mono ?_
  rintro e w2 ⟨rfl, hb2⟩
  have d1 : w2.cell? ⟨w.heap.size, 1, none⟩ = some (.int .i64 o.kind) := ((bcell hb2).1 _ _ HZ1.out).trans c1
  have d3 : w2.cell? ⟨w.heap.size, 3, none⟩ = some (.string o.ke) := ((bcell hb2).1 _ _ HZ1.out).trans K3.out
  have d4 : w2.cell? ⟨w.heap.size, 4, none⟩ = some (.string o.af) := ((bcell hb2).1 _ _ HZ1.out).trans K4.out
  have d5 : w2.cell? ⟨w.heap.size, 5, none⟩ = some (.int .i64 (n : Int)) := ((bcell hb2).1 _ _ HZ1.out).trans K5.out
  have d7 : w2.cell? ⟨w.heap.size, 7, none⟩ = some pv := ((bcell hb2).1 _ _ HZ1.out).trans K7.out
  have HB2 : Hid (Below w.heap.size w w2) := HB1.out.trans (hb2.mono HB1.out.size)
  clear hb2 c1 c6
  go_wp2_with fail
  refine (numbers_any o.ps pv _ (HPN.out.below HB2.out) HS.out.ps HS.out.pe).mono ?_
  rintro e w3 ⟨rfl, hb3⟩
  have HB3 := Lib.hid hb3
  clear hb3
  go_wp2
  go_ret
  exact ⟨ret_strEq (by rw [HT.out]; (try simp only [ba_assoc]); rfl), HB2.out.trans (HB3.out.mono HB2.out.size)⟩

set_option maxHeartbeats 2000000 in
set_option maxRecDepth 100000 in
theorem line_10 (o : O) (pv dv : Value) (w : World) (hp : RowIn w pv (icells o.ps)) (hk : o.kind = 10) (hS : LnO o) :
    Calls Tryz.prog 74 #[opV o pv dv] w fun e w' => e = .returned (.string (lineB o)) ∧ Below w.heap.size w w' := by
  obtain ⟨n, hn⟩ : ∃ n : Nat, o.n = n := ⟨o.n.toNat, by have := hS.n0; omega⟩
  have HT : Hid (lineB o = methodB 10 ++ (sSpace ++ (sUpload ++ hexB o.up))) := by unfold Hid lineB; rw [hk]; congr 2; unfold targetB; rw [if_neg (by omega), if_neg (by omega), if_neg (by omega), if_neg (by omega), if_pos hk]
  have hnn : n ≤ 9223372036854775807 := by have := hS.n1; omega
  have z1 := hS.bu
  have z2 := escB_size o.ke
  have z3 := hS.ke
  have z4 := escB_size o.af
  have z5 := hS.af
  have z6 := hexB_size o.up
  have z7 := decB_size n hnn
  have z8 := commaB_le hS.ps hS.pe
  have hx1 : o.ke.size ≤ 1073741824 := by omega
  have hx2 : o.af.size ≤ 1073741824 := by omega
  have hu := hS.up
  have HPN := Lib.hid hp
  have HS := Lib.hid hS
  have HN := Lib.hid hn
  have s0 : ¬ 9223372036854775807 < 1 + o.bu.size := by omega
  have s1 : ¬ 9223372036854775807 < 1 + o.bu.size + 1 := by omega
  have s2 : ¬ 9223372036854775807 < 1 + o.bu.size + 1 + (escB o.ke).size := by omega
  have s3 : ¬ 9223372036854775807 < 9 + (hexB o.up).size := by omega
  have s4 : ¬ 9223372036854775807 < 7 + (9 + (hexB o.up).size) := by omega
  have q1 : (o.kind == 1) = false := by rw [hk]; rfl
  have q2 : (o.kind == 2) = false := by rw [hk]; rfl
  have q3 : (o.kind == 3) = false := by rw [hk]; rfl
  have q4 : (o.kind == 4) = false := by rw [hk]; rfl
  have q5 : (o.kind == 5) = false := by rw [hk]; rfl
  have q6 : (o.kind == 6) = false := by rw [hk]; rfl
  have q7 : (o.kind == 7) = false := by rw [hk]; rfl
  have q8 : (o.kind == 8) = false := by rw [hk]; rfl
  have q9 : (o.kind == 9) = false := by rw [hk]; rfl
  have q10 : (o.kind == 10) = true := by rw [hk]; rfl
  have HO : Hid (opV o pv dv = .agg #[.int .u64 o.id, .int .i64 o.kind, .string o.bu, .string o.ke, .string o.af, .int .i64 (n : Int), .int .u64 o.up, pv, dv]) := by unfold Hid opV; rw [hn]
  rw [HO.out]
  clear hp hS hk hn z1 z2 z3 z4 z5 z6 z7 z8
  go_enter Tryz.func74, Tryz.ntmps74
  go_wp2_with fail
  refine (escapeR_any o.ke _ hx1).mono ?_
  rintro e w1 ⟨rfl, hb1⟩
  have c1 : w1.cell? ⟨w.heap.size, 1, none⟩ = some (.int .i64 o.kind) := op_cells hb1 1 _ rfl
  have c6 : w1.cell? ⟨w.heap.size, 6, none⟩ = some (.int .u64 o.up) := op_cells hb1 6 _ rfl
  have HB1 := Lib.hid (below_box hb1)
  have HZ1 : Hid (w.heap.size < w1.heap.size) := by unfold Hid; have := hb1.size; rw [World.size_alloc] at this; omega
  have K3 : Hid (w1.cell? ⟨w.heap.size, 3, none⟩ = some (.string o.ke)) := op_cells hb1 3 _ rfl
  have K4 : Hid (w1.cell? ⟨w.heap.size, 4, none⟩ = some (.string o.af)) := op_cells hb1 4 _ rfl
  have K5 : Hid (w1.cell? ⟨w.heap.size, 5, none⟩ = some (.int .i64 (n : Int))) := op_cells hb1 5 _ rfl
  have K7 : Hid (w1.cell? ⟨w.heap.size, 7, none⟩ = some pv) := op_cells hb1 7 _ rfl
  clear hb1
  go_wp2_with fail
  refine (hex_any o.up _ hu).mono ?_
  rintro e w2 ⟨rfl, hb2⟩
  have d1 : w2.cell? ⟨w.heap.size, 1, none⟩ = some (.int .i64 o.kind) := ((bcell hb2).1 _ _ HZ1.out).trans c1
  have d3 : w2.cell? ⟨w.heap.size, 3, none⟩ = some (.string o.ke) := ((bcell hb2).1 _ _ HZ1.out).trans K3.out
  have d4 : w2.cell? ⟨w.heap.size, 4, none⟩ = some (.string o.af) := ((bcell hb2).1 _ _ HZ1.out).trans K4.out
  have d5 : w2.cell? ⟨w.heap.size, 5, none⟩ = some (.int .i64 (n : Int)) := ((bcell hb2).1 _ _ HZ1.out).trans K5.out
  have d7 : w2.cell? ⟨w.heap.size, 7, none⟩ = some pv := ((bcell hb2).1 _ _ HZ1.out).trans K7.out
  have HB2 : Hid (Below w.heap.size w w2) := HB1.out.trans (hb2.mono HB1.out.size)
  clear hb2 c1 c6
  go_wp2
  go_ret
  exact ⟨ret_strEq (by rw [HT.out]; (try simp only [ba_assoc]); rfl), HB2.out⟩

theorem line_any (o : O) (pv dv : Value) (w : World) (hp : RowIn w pv (icells o.ps)) (hS : LnO o) :
    Calls Tryz.prog 74 #[opV o pv dv] w fun e w' => e = .returned (.string (lineB o)) ∧ Below w.heap.size w w' := by
  have h0 := hS.k0
  have h1 := hS.k1
  have : o.kind = 1 ∨ o.kind = 2 ∨ o.kind = 3 ∨ o.kind = 4 ∨ o.kind = 5 ∨ o.kind = 6 ∨ o.kind = 7 ∨ o.kind = 8 ∨ o.kind = 9 ∨ o.kind = 10 := by omega
  rcases this with h | h | h | h | h | h | h | h | h | h
  · exact line_1 o pv dv w hp h hS
  · exact line_2 o pv dv w hp h hS
  · exact line_3 o pv dv w hp h hS
  · exact line_4 o pv dv w hp h hS
  · exact line_5 o pv dv w hp h hS
  · exact line_6 o pv dv w hp h hS
  · exact line_7 o pv dv w hp h hS
  · exact line_8 o pv dv w hp h hS
  · exact line_9 o pv dv w hp h hS
  · exact line_10 o pv dv w hp h hS
end Go.Proofs.YtnlooggibopknaaGreatDoor
