/- The walks of the numbers: Decimal, Hex. -/
import Derived.Test.YtnlooggibopknaaGreatDoorMem
import Derived.Deep.RegionHeld3
import Derived.BigQuiet
import Derived.Laws.BitsAllLaws
import Derived.Test.YtnlooggibopknaaGreatDoorShelf
import Derived.Test.YtnlooggibopknaaGreatDoorSp
namespace Go.Proofs.YtnlooggibopknaaGreatDoor
open Go.RowKit

def decB (n : Nat) : ByteArray := ⟨(Lib.decDigits n).toArray⟩
/-- In the middle of Decimal: the digits that are laid, and the number that is left. -/
def DecMid (n0 n : Nat) (s : ByteArray) : Prop := Lib.decDigits n0 = (if n < 10 then [] else Lib.decDigits (n / 10)) ++ s.data.toList
theorem DecMid.start (n : Nat) : DecMid n n (oneB (48 + (n : Int) % 10)) := by
  have e : (48 + (n : Int) % 10).toNat = 48 + n % 10 := by omega
  unfold DecMid oneB
  rw [Lib.decDigits, e]
  split
  · rename_i h; rw [List.nil_append, Nat.mod_eq_of_lt h]
  · rfl
theorem DecMid.step {n0 n : Nat} {s : ByteArray} (h : DecMid n0 n s) (hn : 10 ≤ n) : DecMid n0 (n / 10) (oneB (48 + (n : Int) / 10 % 10) ++ s) := by
  have := DecMid.start (n / 10)
  unfold DecMid at *
  rw [h, if_neg (by omega), this, List.append_assoc]
  congr 1
theorem DecMid.done {n0 n : Nat} {s : ByteArray} (h : DecMid n0 n s) (hn : n < 10) : s = decB n0 := by
  unfold DecMid at h
  rw [if_pos hn, List.nil_append] at h
  unfold decB
  rw [h]
theorem DecMid.size {n0 n : Nat} {s : ByteArray} (h : DecMid n0 n s) : s.size ≤ (Lib.decDigits n0).length := by
  unfold DecMid at h
  rw [h, List.length_append]
  have : s.data.toList.length = s.size := Array.length_toList
  omega
theorem decDigits_len : ∀ (k n : Nat), n < 10 ^ (k + 1) → (Lib.decDigits n).length ≤ k + 1
  | 0, n, h => by rw [Lib.decDigits, dif_pos (by omega)]; simp
  | k + 1, n, h => by
    rw [Lib.decDigits]
    split
    · simp
    · have := decDigits_len k (n / 10) (by rw [Nat.pow_succ] at h; omega)
      rw [List.length_append]; simp; omega

set_option maxHeartbeats 400000 in
theorem decimal_any (n : Nat) (w : World) (hn : n ≤ 9223372036854775807) :
    Calls Tryz.prog 38 #[.int .i64 n] w fun e w' => e = .returned (.string (decB n)) ∧ Below w.heap.size w w' := by
  have hcv := fun (W : World) => convert_new1 W (48 + (n : Int) % 10) (by omega) (by omega)
  have HS := Lib.hid (DecMid.start n)
  have hlen := decDigits_len 18 n (by omega)
  go_enter Tryz.func38, Tryz.ntmps38
  go_wp2
  clear hcv
  go_loopw [0, 3] (fun x v wr => ∃ (k : Nat) (s : ByteArray), k ≤ n ∧ x = .int .i64 k ∧ v = .string s ∧ DecMid n k s ∧ Below w.heap.size w wr) (fun x _ _ => (intOf x).toNat)
  case atStart => exact ⟨n, _, Nat.le_refl _, rfl, rfl, HS.out, (Below.refl _ _).alloc (Nat.le_refl _) _⟩
  case round =>
    obtain ⟨k, s, hk, rfl, rfl, hd, hb⟩ := hrel
    have HD := Lib.hid hd
    have hsz := hd.size
    clear hd
    by_cases hlt : k < 10
    · have hli : (k : Int) < 10 := by omega
      go_wp2
      go_ret
      exact ⟨ret_str (HD.out.done hlt), hb⟩
    · have hli : 10 ≤ (k : Int) := by omega
      have hcv := fun (W : World) => convert_new1 W (48 + (k : Int) / 10 % 10) (by omega) (by omega)
      have h1 := oneB_size (48 + (k : Int) / 10 % 10)
      go_wp2
      go_roundw
      case rel => exact ⟨k / 10, _, by omega, by go_num, rfl, HD.out.step (by omega), hb.alloc hb.size _⟩
      case measure => simp [intOf]; omega

def hexD (u t : Nat) : UInt8 := UInt8.ofNat (digN ((u / 16 ^ (15 - t) % 16 : Nat) : Int) 97).toNat
def hexL (u : Nat) : List UInt8 := (List.range 16).map (hexD u)
def hexB (u : Nat) : ByteArray := ⟨(hexL u).toArray⟩
theorem hex_snoc (u k : Nat) : (List.range (k + 1)).map (hexD u) = (List.range k).map (hexD u) ++ [hexD u k] := by rw [List.range_succ, List.map_append]; rfl

theorem band15_64 (x : Nat) (h : x < 2 ^ 64) : bits BinOp.and IntKind.u64 (x : Int) 15 = ((x % 16 : Nat) : Int) := by
  rw [show (15 : Int) = ((15 : Nat) : Int) from rfl, u64_and_nat x 15 (by omega) (by decide)]
  exact congrArg Nat.cast (Nat.and_two_pow_sub_one_eq_mod x 4)
theorem hex_piece (u k : Nat) (hu : u < 2 ^ 64) (hk : k < 16) : bits BinOp.and IntKind.u64 ((u : Int) / 2 ^ (60 - 4 * k)) 15 % 256 = ((u / 16 ^ (15 - k) % 16 : Nat) : Int) := by
  have e : (2 : Nat) ^ (60 - 4 * k) = 16 ^ (15 - k) := by
    rw [show (16 : Nat) = 2 ^ 4 from rfl, ← Nat.pow_mul]
    congr 1
    omega
  have e2 : ((u : Int) / 2 ^ (60 - 4 * k)) = ((u / 16 ^ (15 - k) : Nat) : Int) := by
    rw [Int.natCast_ediv, ← e]
    simp
  rw [e2]
  have hx : u / 16 ^ (15 - k) < 2 ^ 64 := Nat.lt_of_le_of_lt (Nat.div_le_self _ _) hu
  generalize u / 16 ^ (15 - k) = x at *
  have : bits BinOp.and IntKind.u64 (x : Int) 15 = ((x % 16 : Nat) : Int) := by
    rw [show (15 : Int) = ((15 : Nat) : Int) from rfl, u64_and_nat x 15 (by omega) (by decide)]
    exact congrArg Nat.cast (Nat.and_two_pow_sub_one_eq_mod x 4)
  rw [this]
  omega

set_option maxHeartbeats 400000 in
set_option maxRecDepth 100000 in
theorem hex_any (u : Nat) (w : World) (hu : u < 2 ^ 64) :
    Calls Tryz.prog 58 #[.int .u64 u] w fun e w' => e = .returned (.string (hexB u)) ∧ Below w.heap.size w w' := by
  obtain ⟨i0, hi, hz0, hz1, hz2⟩ := info_parts info5
  have HU := Lib.hid hu
  clear hu
  go_enter Tryz.func58, Tryz.ntmps58
  go_wp2
  go_loopw [3, 4] (fun v i wr => ∃ k : Nat, k ≤ 16 ∧ i = .int .i64 (60 - 4 * (k : Int)) ∧ wr.ownsRow w.heap.size 5 1 v ((List.range k).map (hexD u)).length (bcells ((List.range k).map (hexD u))) ∧ Below w.heap.size w wr) (fun _ i _ => (4 + intOf i).toNat)
  case atStart => exact ⟨0, Nat.zero_le _, rfl, World.ownsRow_nil _ _ _ _, Below.refl _ _⟩
  case round =>
    obtain ⟨k, hk, rfl, hown, hb⟩ := hrel
    have hbs := hb.size
    by_cases hlt : k < 16
    · have hli : 0 ≤ 60 - 4 * (k : Int) := by omega
      have hl2 : 60 - 4 * (k : Int) ≤ 60 := by omega
      have HS := Lib.hid (hex_snoc u k)
      have HP := Lib.hid (hex_piece u k HU.out hlt)
      have hd : u / 16 ^ (15 - k) % 16 < 16 := Nat.mod_lt _ (by decide)
      have h27 : 0 ≤ digN ((u / 16 ^ (15 - k) % 16 : Nat) : Int) 97 := by unfold digN; split <;> omega
      have h28 : digN ((u / 16 ^ (15 - k) % 16 : Nat) : Int) 97 ≤ 255 := by unfold digN; split <;> omega
      have HB := Lib.hid (bnum_one h27 h28)
      have hlr : ((List.range k).map (hexD u)).length = k := by simp
      have hl1 : ((List.range k).map (hexD u)).length + 1 ≤ maxLen := by rw [hlr]; unfold maxLen; omega
      have hl3 : (((List.range k).map (hexD u)).length + 1) * 1 ≤ 140737488355328 := by rw [hlr]; omega
      clear hlr
      have HD := Lib.hid hd
      clear hd h27 h28
      go_wp2_with fail
      rw [HP.out]
      generalize hdd : u / 16 ^ (15 - k) % 16 = d at *
      have HDD := Lib.hid hdd
      clear hdd
      refine (digit_any _ _ _ (by omega) (by have := HD.out; omega) (by decide) (by decide)).mono ?_
      rintro e w' ⟨rfl, rfl⟩
      go_wp2_with (at_builtin; refine wpList_append_own _ rfl _ _ 24 rfl w.heap.size 5 i0 (.int .u8 0) 1 1 Tryz.underlying24 hi hz0 hz1 hz2 rfl (by decide) _ _ _ rfl (hown.alloc _) ⟨wr.heap.size, 0, none⟩ 1 1 _ rfl rfl (news_new _ _ _) (by intro u hu; simp at hu; subst hu; rfl) hl1 hl3 (by simp; omega) ?_; intro v1 w1 hown1 hgr1 _)
      go_roundw
      case rel =>
        refine ⟨k + 1, by omega, by go_num, own_eq hown1 (by simp) ?_, hb.trans (((Below.refl _ _).alloc hb.size _).grown hgr1 (by simp; omega) (own_lt hown))⟩
        rw [HS.out, bcells_app]
        congr 1
        show _ = bcells [UInt8.ofNat (digN ((u / 16 ^ (15 - k) % 16 : Nat) : Int) 97).toNat]
        rw [HDD.out]
        exact HB.out
      case measure => simp [intOf]; omega
    · obtain rfl : k = 16 := by omega
      have hcv := convert_own hown
      go_wp2
      go_ret
      exact ⟨rfl, hb⟩
end Go.Proofs.YtnlooggibopknaaGreatDoor

/- The walks of a number in sixteen digits: strconv.FormatUint at base 16, front.sixteen. -/
namespace Go.Proofs.YtnlooggibopknaaGreatDoor
open Go.RowKit

theorem pow2_16 (w : World) : Calls Tryz.prog 143 #[.int .i64 16] w fun e w' => e = .returned (.bool true) ∧ w = w' := by
  have hb : bits BinOp.and IntKind.i64 16 15 = 0 := by decide +kernel
  go_enter Tryz.func143, Tryz.ntmps143
  go_wp2
  go_ret
  exact ⟨rfl, rfl⟩
theorem tz64_16 (w : World) (h : w.cell? ⟨5, 15, none⟩ = some (.int .u8 4)) : Calls Tryz.prog 152 #[.int .u64 16] w fun e w' => e = .returned (.int .i64 4) ∧ w = w' := by
  have h1 : bits BinOp.and IntKind.u64 16 (IntKind.u64.wrap (-16)) = 16 := by decide +kernel
  have h2 : IntKind.u64.wrap (16 * 285870213051353865) / 288230376151711744 = 15 := by decide +kernel
  have h3 : IntKind.u64.wrap 4573923408821661840 / 288230376151711744 = 15 := by decide +kernel
  go_enter Tryz.func152, Tryz.ntmps152
  go_wp2
  go_ret
  exact ⟨rfl, rfl⟩
theorem tz_16 (w : World) (h : w.cell? ⟨5, 15, none⟩ = some (.int .u8 4)) : Calls Tryz.prog 144 #[.int .u64 16] w fun e w' => e = .returned (.int .i64 4) ∧ w = w' := by
  have H := fun W hW => tz64_16 W hW
  have HH := Lib.hid H
  clear H
  go_enter Tryz.func144, Tryz.ntmps144
  go_wp2_with (go_at_call 152; refine (HH.out _ h).mono ?_; rintro e w' ⟨rfl, rfl⟩)
  go_ret
  exact ⟨rfl, rfl⟩

def hexS (u k : Nat) : List UInt8 := (List.range k).map fun t => UInt8.ofNat (digN ((u / 16 ^ (k - 1 - t) % 16 : Nat) : Int) 97).toNat
theorem hexS_succ (u k : Nat) : hexS u (k + 1) = UInt8.ofNat (digN ((u / 16 ^ k % 16 : Nat) : Int) 97).toNat :: hexS u k := by
  unfold hexS
  rw [List.range_succ_eq_map, List.map_cons, List.map_map]
  congr 1
  apply List.map_congr_left
  intro t ht
  have : k + 1 - 1 - (t + 1) = k - 1 - t := by omega
  simp only [Function.comp, Nat.succ_eq_add_one, this]
theorem hexS_len (u k : Nat) : (hexS u k).length = k := by simp [hexS]
theorem hexS_16 (u : Nat) : hexS u 16 = hexL u := rfl
theorem hexS_zero (u : Nat) : ∀ (j k : Nat), u < 16 ^ k → hexS u (k + j) = List.replicate j 48 ++ hexS u k
  | 0, k, _ => by simp
  | j + 1, k, h => by
    have h2 : u < 16 ^ (k + j) := Nat.lt_of_lt_of_le h (Nat.pow_le_pow_right (by decide) (by omega))
    rw [show k + (j + 1) = (k + j) + 1 from rfl, hexS_succ, hexS_zero u j k h, Nat.div_eq_of_lt h2]
    rfl
theorem tabL : ∀ q : Fin 16, (⟨#[48, 49, 50, 51, 52, 53, 54, 55, 56, 57, 97, 98, 99, 100, 101, 102, 103, 104, 105, 106, 107, 108, 109, 110, 111, 112, 113, 114, 115, 116, 117, 118, 119, 120, 121, 122]⟩ : ByteArray)[q.val]'(by have := q.2; show q.val < 36; omega) = UInt8.ofNat (digN q.val 97).toNat := by decide

theorem slice65 (b j k : Nat) (h : j + k = 64) (W : World) : (Instr.sliceAt 161 (.pointer (some ⟨b, 0, none⟩)) (some (.int .i64 (j : Int))) none none).run Tryz.prog W = .ok (.slice (some ⟨b, j, none⟩) (k + 1) (k + 1)) W := by
  have ha : Tryz.prog.arrayLen 161 = 65 := by kernel_rfl
  have he : Tryz.prog.elem 161 = 5 := by kernel_rfl
  obtain ⟨i0, hi, _, hz1, _⟩ := info_parts info5
  rw [run_sliceAt_array_l W 161 _ (by rw [ha, he]; exact Tryz.underlying161) .i64 j (by omega) (by rw [ha]; omega), he, ha]
  simp only [sizeOf, typeInfo, slicedAt]
  simp [hi, hz1]
  refine ⟨?_, by omega⟩
  rw [if_neg (by omega)]
  unfold Addr.add
  split <;> simp_all
/-- What the array holds behind k rounds: the last k digits at its end. -/
structure Dig (w wr : World) (u j k : Nat) : Prop where
  sum : j + k = 65
  low : k ≤ 15
  blk : ∃ cur : Array Value, wr.heap[w.heap.size]? = some (.cells cur 161 (0, 0)) ∧ cur.size = 65 ∧ cur.toList.drop j = bcells (hexS u k)
  below : Below w.heap.size w wr
theorem Dig.start (w : World) (u : Nat) : Dig w (w.alloc (.cells Tryz.zeroCells161 161)) u 65 0 := by
  refine ⟨rfl, by omega, ⟨Tryz.zeroCells161, heap_alloc_new w _, by kernel_rfl, ?_⟩, (Below.refl _ _).alloc (Nat.le_refl _) _⟩
  rw [List.drop_of_length_le]
  · rfl
  · rw [Array.length_toList]
    exact Nat.le_of_eq (by kernel_rfl)
theorem Dig.cell {w wr : World} {u j k : Nat} (h : Dig w wr u (j + 1) k) : ∃ v, wr.cell? ⟨w.heap.size, j, none⟩ = some v := by
  obtain ⟨cur, hb, hs, _⟩ := h.blk
  have := h.sum
  exact ⟨cur[j]'(by omega), by rw [cell_of_row _ _ _ _ _ _ hb]; exact Array.getElem?_eq_getElem (by omega)⟩
theorem Dig.free {w wr : World} {u j k : Nat} (h : Dig w wr u (j + 1) k) : wr.frozen? ⟨w.heap.size, j, none⟩ = false := by
  obtain ⟨cur, hb, _⟩ := h.blk
  simp [World.frozen?, hb]
theorem Dig.put {w wr : World} {u j k : Nat} (h : Dig w wr u (j + 1) k) (v : Value) (hv : [v] = bcells [UInt8.ofNat (digN ((u / 16 ^ k % 16 : Nat) : Int) 97).toNat]) :
    (∃ cur : Array Value, (wr.setCell ⟨w.heap.size, j, none⟩ v).heap[w.heap.size]? = some (.cells cur 161 (0, 0)) ∧ cur.size = 65 ∧ cur.toList.drop j = bcells (hexS u (k + 1))) ∧ Below w.heap.size w (wr.setCell ⟨w.heap.size, j, none⟩ v) := by
  obtain ⟨cur, hb, hs, hd⟩ := h.blk
  have hsum := h.sum
  refine ⟨⟨cur.setIfInBounds j v, by simp [World.setCell, Array.getElem?_modify, hb], by simpa using hs, ?_⟩, h.below.setCell (Nat.le_refl _) v⟩
  rw [Array.toList_setIfInBounds, List.drop_eq_getElem_cons (by simp; omega), List.drop_set_of_lt (by omega), hd, hexS_succ]
  simp only [List.getElem_set_self]
  have : bcells (UInt8.ofNat (digN ((u / 16 ^ k % 16 : Nat) : Int) 97).toNat :: hexS u k) = bcells [UInt8.ofNat (digN ((u / 16 ^ k % 16 : Nat) : Int) 97).toNat] ++ bcells (hexS u k) := by simp [bcells]
  rw [this, ← hv]
  rfl
theorem Dig.next {w wr : World} {u j k : Nat} (h : Dig w wr u (j + 1) k) (v : Value) (hv : [v] = bcells [UInt8.ofNat (digN ((u / 16 ^ k % 16 : Nat) : Int) 97).toNat]) (hk : k + 1 ≤ 15) : Dig w (wr.setCell ⟨w.heap.size, j, none⟩ v) u j (k + 1) := by
  obtain ⟨h1, h2⟩ := h.put v hv
  exact ⟨by have := h.sum; omega, hk, h1, h2⟩

set_option maxHeartbeats 800000 in
set_option maxRecDepth 100000 in
theorem formatBits_16 (u : Nat) (w : World) (hu : u < 2 ^ 64) (h : w.cell? ⟨5, 15, none⟩ = some (.int .u8 4)) :
    Calls Tryz.prog 121 #[.slice none 0 0, .int .u64 u, .int .i64 16, .bool false, .bool false] w fun e w' => ∃ k, k ≤ 15 ∧ u < 16 ^ (k + 1) ∧ e = .returned (.tuple #[.slice none 0 0, .string ⟨(hexS u (k + 1)).toArray⟩]) ∧ Below w.heap.size w w' := by
  have HU := Lib.hid hu
  have hT : ∀ o, Calls Tryz.prog 144 #[.int .u64 16] (w.alloc o) fun e w' => e = .returned (.int .i64 4) ∧ w.alloc o = w' := fun o => tz_16 _ (by rw [World.cell?_alloc_past _ _ _ (World.block_lt_of_cell? w _ h)]; exact h)
  have HT := Lib.hid hT
  clear hu hT
  go_enter Tryz.func121, Tryz.ntmps121
  go_wp2_with (first
    | (go_at_call 143; refine (pow2_16 _).mono ?_; rintro e w' ⟨rfl, rfl⟩)
    | (go_at_call 144; refine (HT.out _).mono ?_; rintro e w' ⟨rfl, rfl⟩))
  go_loopw [1, 13] (fun x i wr => ∃ j k : Nat, x = .int .u64 (u / 16 ^ k : Nat) ∧ i = .int .i64 j ∧ Dig w wr u j k) (fun x _ _ => (intOf x).toNat)
  case atStart => exact ⟨65, 0, by simp, rfl, Dig.start w u⟩
  case round =>
    obtain ⟨j, k, rfl, rfl, hd⟩ := hrel
    have hsum := hd.sum
    have hlow := hd.low
    obtain ⟨j, rfl⟩ : ∃ m, j = m + 1 := ⟨j - 1, by omega⟩
    obtain ⟨v0, hv0⟩ := hd.cell
    have hf0 := hd.free
    have hj : j < 65 := by omega
    generalize hx : u / 16 ^ k = x at *
    have HX := Lib.hid hx
    have HD := Lib.hid hd
    clear hx hd hsum
    have hx64 : x < 2 ^ 64 := by have := HU.out; have h2 := HX.out; rw [← h2]; exact Nat.lt_of_le_of_lt (Nat.div_le_self _ _) this
    by_cases hlt : x < 16
    · have hli : (x : Int) < 16 := by omega
      have hl36 : (x : Int) < 36 := by omega
      have hT := tabL ⟨x, hlt⟩
      have HT2 := Lib.hid hT
      clear hT
      have hP := HD.out.put (.int .u8 (UInt8.ofNat (digN (x : Int) 97).toNat).toNat) (by rw [HX.out, Nat.mod_eq_of_lt hlt]; rfl)
      have HP := Lib.hid hP
      clear hP
      have hlast : u < 16 ^ (k + 1) := by
        have := HX.out
        rw [Nat.pow_succ]
        have h16 : u / 16 ^ k < 16 := by omega
        exact (Nat.div_lt_iff_lt_mul (Nat.pow_pos (by decide))).1 h16 |> (by rw [Nat.mul_comm]; exact ·)
      have HL := Lib.hid hlast
      clear hlast hx64
      have hjk : j + k = 64 := by have := HD.out.sum; omega
      have hsl := slice65 w.heap.size j k hjk
      have hji : (j : Int) ≤ 65 := by omega
      obtain ⟨⟨cur, hb, hcs, hcd⟩, hbl⟩ := HP.out
      have hcv := convert_at (o := j) hb (hexS u (k + 1)) (k + 1) (fun i v hv => by
        rw [← hcd, List.getElem?_drop] at hv
        simpa using hv)
      rw [hexS_len, ← HT2.out] at hcv
      have HB := Lib.hid hbl
      clear hb hcs hcd hbl
      go_wp2_with fail
      go_ret2
      exact ⟨k, hlow, HL.out, rfl, by have := HB.out; rw [← HT2.out] at this; exact this⟩
    · have hli : 16 ≤ (x : Int) := by omega
      obtain ⟨d, hd, hdx⟩ : ∃ d : Nat, bits BinOp.and IntKind.u64 (x : Int) 15 = d ∧ d = x % 16 := ⟨x % 16, band15_64 x hx64, rfl⟩
      have hd16 : d < 16 := by omega
      have hdi : (d : Int) < 36 := by omega
      have HDX := Lib.hid hdx
      have HT2 := Lib.hid (tabL ⟨d, hd16⟩)
      have hk1 : k + 1 ≤ 15 := by
        rcases Nat.lt_or_ge k 15 with hk | hk
        · omega
        · exfalso
          obtain rfl : k = 15 := by omega
          have h1 := HX.out
          have h2 := HU.out
          omega
      have hP := HD.out.next (.int .u8 (UInt8.ofNat (digN (d : Int) 97).toNat).toNat) (by rw [HX.out, ← hdx]; rfl) hk1
      have HP := Lib.hid hP
      clear hP hdx hx64
      go_wp2_with fail
      go_roundw
      case rel =>
        refine ⟨j, k + 1, ?_, rfl, ?_⟩
        · rw [Nat.pow_succ, ← Nat.div_div_eq_div_mul, HX.out]; simp
        · have := HP.out
          rw [← HT2.out] at this
          exact this
      case measure => simp [intOf]; omega

theorem formatUint_16 (u : Nat) (w : World) (hu : u < 2 ^ 64) (h : w.cell? ⟨5, 15, none⟩ = some (.int .u8 4)) :
    Calls Tryz.prog 93 #[.int .u64 u, .int .i64 16] w fun e w' => ∃ k, k ≤ 15 ∧ u < 16 ^ (k + 1) ∧ e = .returned (.string ⟨(hexS u (k + 1)).toArray⟩) ∧ Below w.heap.size w w' := by
  have C := Lib.hid (formatBits_16 u w hu h)
  clear hu
  go_enter Tryz.func93, Tryz.ntmps93
  go_wp2_with fail
  refine C.out.mono ?_
  rintro e w' ⟨k, hk, hu, rfl, hb⟩
  have HU := Lib.hid hu
  clear hu
  go_wp2
  go_ret
  exact ⟨k, hk, HU.out, rfl, hb⟩
theorem formatUintP_16 (u : Nat) (w : World) (hu : u < 2 ^ 64) (h : w.cell? ⟨5, 15, none⟩ = some (.int .u8 4)) :
    Calls Tryz.prog 71 #[.int .u64 u, .int .i64 16] w fun e w' => ∃ k, k ≤ 15 ∧ u < 16 ^ (k + 1) ∧ e = .returned (.string ⟨(hexS u (k + 1)).toArray⟩) ∧ Below w.heap.size w w' := by
  have C := Lib.hid (formatUint_16 u w hu h)
  clear hu
  go_enter Tryz.func71, Tryz.ntmps71
  go_wp2_with fail
  refine C.out.mono ?_
  rintro e w' ⟨k, hk, hu, rfl, hb⟩
  have HU := Lib.hid hu
  clear hu
  go_wp2
  go_ret
  exact ⟨k, hk, HU.out, rfl, hb⟩

theorem repeatL_one (c : UInt8) : ∀ n, Lib.repeatL [c] n = List.replicate n c := by
  intro n
  induction n with
  | zero => rfl
  | succ n ih => rw [Lib.repeatL, ih, List.replicate_succ]; rfl

theorem sixteen_any (u : Nat) (w : World) (hu : u < 2 ^ 64) (hL : Lib0 w) :
    Calls Tryz.prog 35 #[.int .u64 u] w fun e w' => e = .returned (.string (hexB u)) ∧ Below w.heap.size w w' := by
  have C := Lib.hid (formatUintP_16 u w hu hL.db)
  clear hu hL
  go_enter Tryz.func35, Tryz.ntmps35
  go_wp2_with fail
  refine C.out.mono ?_
  rintro e w1 ⟨k, hk, hu, rfl, hb⟩
  have hsz : (⟨(hexS u (k + 1)).toArray⟩ : ByteArray).size = k + 1 := by simp only [ByteArray.size, List.size_toArray, hexS_len]
  have hsr : (⟨(Lib.repeatL [48] (15 - k)).toArray⟩ : ByteArray).size = 15 - k := by simp only [ByteArray.size, List.size_toArray, repeatL_one, List.length_replicate]
  have HE : Hid ((⟨(Lib.repeatL [48] (15 - k)).toArray⟩ : ByteArray) ++ (⟨(hexS u (k + 1)).toArray⟩ : ByteArray) = hexB u) := by
    unfold Hid hexB
    rw [← hexS_16, repeatL_one]
    have := hexS_zero u (15 - k) (k + 1) hu
    rw [show k + 1 + (15 - k) = 16 from by omega] at this
    rw [this]
    apply WideShapes.bytes_inj
    simp
  have R : Calls Tryz.prog 72 #[.string ⟨#[48]⟩, .int .i64 ((15 - k : Nat) : Int)] w1 fun e w' => e = .returned (.string ⟨(Lib.repeatL [48] (15 - k)).toArray⟩) ∧ Below w1.heap.size w1 w' :=
    Tryz.strings_Repeat ⟨#[48]⟩ (15 - k) w1 (by omega) (by simp [ByteArray.size]; omega)
  clear hu
  generalize (⟨(hexS u (k + 1)).toArray⟩ : ByteArray) = s2 at *
  generalize (⟨(Lib.repeatL [48] (15 - k)).toArray⟩ : ByteArray) = s1 at *
  have HR := Lib.hid R
  have h1 : s1.size ≤ 15 := by omega
  have h2 : s2.size ≤ 16 := by omega
  have hk1 : (16 : Int) - s2.size = ((15 - k : Nat) : Int) := by omega
  have HK1 := Lib.hid hk1
  clear R hsz hsr hk1
  go_wp2_with fail
  rw [HK1.out]
  refine HR.out.mono ?_
  rintro e w2 ⟨rfl, hb2⟩
  go_wp2
  go_ret
  exact ⟨ret_str HE.out, hb.trans (hb2.mono hb.size)⟩
end Go.Proofs.YtnlooggibopknaaGreatDoor

/- Sixteen digits read as a number: the plain part, and the reference's hexed. -/
namespace Go.Proofs.YtnlooggibopknaaGreatDoor
open Go.RowKit

theorem hexS_snoc (a d : Nat) (hd : d < 16) : ∀ k, hexS (16 * a + d) (k + 1) = hexS a k ++ [UInt8.ofNat (digN (d : Int) 97).toNat]
  | 0 => by
    rw [hexS_succ]
    simp only [hexS, List.range_zero, List.map_nil, Nat.pow_zero, Nat.div_one, List.nil_append]
    rw [show (16 * a + d) % 16 = d from by omega]
  | k + 1 => by
    rw [hexS_succ, hexS_snoc a d hd k, hexS_succ a k, Nat.pow_succ, Nat.mul_comm (16 ^ k) 16, ← Nat.div_div_eq_div_mul, show (16 * a + d) / 16 = a from by omega]
    rfl
theorem hexS_mod (a : Nat) : ∀ k, hexS (a % 16 ^ k) k = hexS a k
  | 0 => rfl
  | k + 1 => by
    unfold hexS
    apply List.map_congr_left
    intro t ht
    have ht' : t < k + 1 := List.mem_range.1 ht
    have e : a % 16 ^ (k + 1) / 16 ^ (k + 1 - 1 - t) % 16 = a / 16 ^ (k + 1 - 1 - t) % 16 := by
      have h2 : (16 : Nat) ^ (k + 1) = 16 ^ (k - t) * (16 * 16 ^ t) := by
        rw [← Nat.pow_succ', ← Nat.pow_add]
        congr 1
        omega
      rw [show k + 1 - 1 - t = k - t from by omega, h2, Nat.mod_mul_right_div_self, Nat.mod_mul_right_mod]
    rw [e]
theorem digL_inj (q r : Nat) (hq : q < 16) (hr : r < 16) (h : UInt8.ofNat (digN (q : Int) 97).toNat = UInt8.ofNat (digN (r : Int) 97).toNat) : q = r := by
  have h1 := val_digL ⟨q, hq⟩
  have h2 := val_digL ⟨r, hr⟩
  simp only at h1 h2
  rw [h, h2] at h1
  omega
theorem hexS_inj : ∀ (k a b : Nat), a < 16 ^ k → b < 16 ^ k → hexS a k = hexS b k → a = b
  | 0, a, b, ha, hb, _ => by simp at ha hb; omega
  | k + 1, a, b, ha, hb, h => by
    have ea : a = 16 * (a / 16) + a % 16 := by omega
    have eb : b = 16 * (b / 16) + b % 16 := by omega
    rw [ea, eb, hexS_snoc _ _ (by omega), hexS_snoc _ _ (by omega)] at h
    obtain ⟨h1, h2⟩ := List.append_inj' h rfl
    have i1 := hexS_inj k (a / 16) (b / 16) (by rw [Nat.pow_succ] at ha; omega) (by rw [Nat.pow_succ] at hb; omega) h1
    have i2 := digL_inj _ _ (Nat.mod_lt _ (by decide)) (Nat.mod_lt _ (by decide)) (List.cons.inj h2).1
    omega
theorem hexL_inj {a b : Nat} (ha : a < 2 ^ 64) (hb : b < 2 ^ 64) (h : hexL a = hexL b) : a = b := hexS_inj 16 a b (by simpa using ha) (by simpa using hb) h

open Classical in
/-- The number whose sixteen digits these are. -/
noncomputable def unhexL (s : List UInt8) : Option Nat := if h : ∃ m, m < 2 ^ 64 ∧ hexL m = s then some h.choose else none
theorem unhexL_some {s : List UInt8} {m : Nat} (hm : m < 2 ^ 64) (h : hexL m = s) : unhexL s = some m := by
  have hx : ∃ m, m < 2 ^ 64 ∧ hexL m = s := ⟨m, hm, h⟩
  unfold unhexL
  rw [dif_pos hx]
  exact congrArg some (hexL_inj hx.choose_spec.1 hm (hx.choose_spec.2.trans h.symm))
theorem unhexL_none {s : List UInt8} (h : ∀ m, m < 2 ^ 64 → hexL m ≠ s) : unhexL s = none := by
  unfold unhexL
  rw [dif_neg (by rintro ⟨t, ht, h2⟩; exact h t ht h2)]
theorem unhexL_iff {s : List UInt8} {m : Nat} : unhexL s = some m ↔ m < 2 ^ 64 ∧ hexL m = s := by
  refine ⟨fun h => ?_, fun h => unhexL_some h.1 h.2⟩
  unfold unhexL at h
  split at h
  · rename_i hx
    have := Option.some.inj h
    rw [← this]; exact hx.choose_spec
  · cases h
theorem hexL_len (m : Nat) : (hexL m).length = 16 := hexS_len m 16
theorem hexL_get (m k : Nat) (hk : k < 16) : (hexL m)[k]'(by rw [hexL_len]; exact hk) = UInt8.ofNat (digN ((m / 16 ^ (15 - k) % 16 : Nat) : Int) 97).toNat := by
  simp [hexL, hexD]
theorem hexL_val (m k : Nat) (hk : k < 16) : valN ((hexL m)[k]'(by rw [hexL_len]; exact hk)).toNat 97 = ((m / 16 ^ (15 - k) % 16 : Nat) : Int) := by
  rw [hexL_get m k hk]
  exact val_digL ⟨m / 16 ^ (15 - k) % 16, Nat.mod_lt _ (by decide)⟩
theorem val_dig_inv : ∀ c : Fin 256, 0 ≤ valN (c.val : Int) 97 → UInt8.ofNat c.val = UInt8.ofNat (digN (valN (c.val : Int) 97) 97).toNat := by decide +kernel
theorem val_dig_back (c : UInt8) (h : 0 ≤ valN c.toNat 97) : c = UInt8.ofNat (digN (valN c.toNat 97) 97).toNat := by
  have := val_dig_inv ⟨c.toNat, c.toNat_lt⟩ h
  simpa using this

def unhexR : Option Nat → Ending
  | some m => .returned (.tuple #[.int .u64 (m : Int), .bool true])
  | none => .returned (.tuple #[.int .u64 0, .bool false])
noncomputable def unhexE (s : ByteArray) : Ending := unhexR (unhexL s.data.toList)
theorem unhexE_none {s : ByteArray} (h : unhexL s.data.toList = none) : Ending.returned (.tuple #[.int .u64 0, .bool false]) = unhexE s := (congrArg unhexR h).symm
theorem unhexE_some {s : ByteArray} {m : Nat} (h : unhexL s.data.toList = some m) : Ending.returned (.tuple #[.int .u64 (m : Int), .bool true]) = unhexE s := (congrArg unhexR h).symm

/-- In the middle of hexed: what was read is the digits of a number. -/
structure HexMid (s : ByteArray) (k a : Nat) : Prop where
  lt : a < 16 ^ k
  eq : s.data.toList.take k = hexS a k
theorem HexMid.start (s : ByteArray) : HexMid s 0 0 := ⟨by simp, by simp [hexS]⟩
theorem HexMid.step {s : ByteArray} {k a : Nat} (h : HexMid s k a) (hk : k < s.size) (d : Nat) (hd : valN (s[k]'hk).toNat 97 = d) : HexMid s (k + 1) (16 * a + d) := by
  have h16 := valN_lt (s[k]'hk).toNat 97 (by omega)
  have hb := val_dig_back (s[k]'hk) (by omega)
  rw [hd] at hb
  refine ⟨by have := h.lt; rw [Nat.pow_succ]; omega, ?_⟩
  rw [hexS_snoc a d (by omega), ← h.eq, take_snoc s k hk]
  congr 1
  rw [← hb]
theorem HexMid.done {s : ByteArray} {a : Nat} (h : HexMid s 16 a) (hs : s.size = 16) : unhexL s.data.toList = some a := by
  refine unhexL_some (by have := h.lt; simpa using this) ?_
  rw [← hexS_16, ← h.eq, take_all s 16 (by omega)]
theorem hex_size {s : ByteArray} (h : s.size ≠ 16) : unhexL s.data.toList = none := unhexL_none fun m _ e => h (by
  have := hexL_len m
  rw [e] at this
  exact Array.length_toList.symm.trans this)
theorem hex_bad {s : ByteArray} {k : Nat} (hk : k < s.size) (h : valN (s[k]'hk).toNat 97 < 0) : unhexL s.data.toList = none := by
  refine unhexL_none fun m _ e => ?_
  have hs : s.size = 16 := by have := hexL_len m; rw [e] at this; exact Array.length_toList.symm.trans this
  have := hexL_val m k (by omega)
  have e2 : (hexL m)[k]'(by rw [hexL_len]; omega) = s[k] := by
    have : (hexL m)[k]? = s.data.toList[k]? := by rw [e]
    rw [List.getElem?_eq_getElem (by rw [hexL_len]; omega), List.getElem?_eq_getElem (by rw [Array.length_toList]; exact hk)] at this
    exact Option.some.inj this
  rw [e2] at this
  omega

theorem or16 (a d : Nat) (ha : a < 2 ^ 60) (hd : d < 16) : bits BinOp.or IntKind.u64 (IntKind.u64.wrap ((a : Int) * 16)) (d : Int) = ((16 * a + d : Nat) : Int) := by
  rw [IntWalk.u64_in _ (by omega), show (a : Int) * 16 = ((16 * a : Nat) : Int) from by omega, u64_or_nat (16 * a) d (by omega) (by omega)]
  congr 1
  exact (Nat.two_pow_add_eq_or_of_lt (i := 4) hd a).symm

set_option maxHeartbeats 400000 in
set_option maxRecDepth 100000 in
theorem hexed_any (s : ByteArray) (w : World) : Calls Tryz.prog 64 #[.string s] w fun e w' => e = unhexE s ∧ w = w' := by
  by_cases hs : s.size = 16
  · have hsi : ((s.size : Int) != 16) = false := by rw [bne_eq_false_iff_eq]; omega
    have hsi2 : 16 ≤ (s.size : Int) := by omega
    have hsi3 : (s.size : Int) ≤ 16 := by omega
    have HS := Lib.hid hs
    clear hs
    go_enter Tryz.func64, Tryz.ntmps64
    go_wp2
    go_loop [4, 5] (fun x i => ∃ k a : Nat, k ≤ 16 ∧ x = .int .u64 a ∧ i = .int .i64 k ∧ HexMid s k a) (fun _ i => 16 - (intOf i).toNat)
    case atStart => exact ⟨0, 0, by omega, rfl, rfl, HexMid.start s⟩
    case round =>
      obtain ⟨k, a, hk, rfl, rfl, hm⟩ := hrel
      have HM := Lib.hid hm
      clear hm
      by_cases hlt : k < 16
      · have hlt2 : k < s.size := by omega
        obtain ⟨v, hv⟩ : ∃ v, valN (s[k]'hlt2).toNat 97 = v := ⟨_, rfl⟩
        have hc := (s[k]'hlt2).toNat_lt
        have C : Calls Tryz.prog 43 #[.int .u8 (s[k]'hlt2).toNat, .int .u8 97] w fun e w' => e = .returned (.int .i64 v) ∧ w = w' := by
          have := value_any (s[k]'hlt2).toNat 97 w (by omega) (by omega) (by decide) (by decide)
          rw [hv] at this; exact this
        have HC := Lib.hid C
        have HV := Lib.hid hv
        clear C hv
        go_wp2_with fail
        refine HC.out.mono ?_
        rintro e w' ⟨rfl, rfl⟩
        by_cases hneg : v < 0
        · have HB := Lib.hid (hex_bad hlt2 (by rw [HV.out]; exact hneg))
          go_wp2
          go_ret2
          exact ⟨unhexE_none HB.out, rfl⟩
        · obtain ⟨d, rfl⟩ : ∃ d : Nat, v = d := ⟨v.toNat, by omega⟩
          have hd16 : d < 16 := by have := valN_lt (s[k]'hlt2).toNat 97 (by rw [HV.out]; omega); rw [HV.out] at this; omega
          have HN := Lib.hid (HM.out.step hlt2 d HV.out)
          have HO := Lib.hid (or16 a d (by have h1 := HM.out.lt; have h2 : (16 : Nat) ^ k ≤ 16 ^ 15 := Nat.pow_le_pow_right (by decide) (by omega); omega) hd16)
          go_wp2
          go_round
          case rel => exact ⟨k + 1, 16 * a + d, by omega, by rw [HO.out], by go_num, HN.out⟩
          case measure => simp [intOf]; omega
      · obtain rfl : k = 16 := by omega
        have HD := Lib.hid (HM.out.done HS.out)
        go_wp2
        go_ret2
        exact ⟨unhexE_some HD.out, rfl⟩
  · have hsi : ((s.size : Int) != 16) = true := by rw [bne_iff_ne]; omega
    have hne : ¬ (s.size : Int) = 16 := by omega
    have HN := Lib.hid (hex_size hs)
    clear hs
    go_enter Tryz.func64, Tryz.ntmps64
    go_wp2
    go_ret2
    exact ⟨unhexE_none HN.out, rfl⟩
end Go.Proofs.YtnlooggibopknaaGreatDoor
