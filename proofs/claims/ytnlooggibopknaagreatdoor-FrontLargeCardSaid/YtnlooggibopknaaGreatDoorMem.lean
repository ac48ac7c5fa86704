/- Words and small laws on what lies in memory: rows of bytes and of numbers, read in whatever later world. -/
import Derived.Test.YtnlooggibopknaaGreatDoorProg
import Derived.Test.YtnlooggibopknaaGreatDoorSp
import Derived.WalkKit
import Derived.WalkSpells
import Derived.WalkLawsBesides
import Derived.Lib.Hide
import Derived.Deep.AppendLies
import Derived.Deep.Draws
import Derived.Deep.QuietTactic
import Derived.Lib.QuietBelow
import Derived.Lib.ItoaNum
import Derived.Lib.LaidTab
namespace Go.Proofs.YtnlooggibopknaaGreatDoor
open Go.RowKit

def bcells (l : List UInt8) : List Value := l.map fun c => .int .u8 (c.toNat : Int)
def icells (l : List Int) : List Value := l.map (Value.int .i64)
theorem bcells_len (l : List UInt8) : (bcells l).length = l.length := by simp [bcells]
theorem bcells_app (a b : List UInt8) : bcells (a ++ b) = bcells a ++ bcells b := by simp [bcells]
theorem bcells_one (l : List UInt8) : ∀ u ∈ bcells l, u.oneCell' = true := by
  intro u hu; simp only [bcells, List.mem_map] at hu; obtain ⟨c, _, rfl⟩ := hu; rfl
theorem icells_one (l : List Int) : ∀ u ∈ icells l, u.oneCell' = true := by
  intro u hu; simp only [icells, List.mem_map] at hu; obtain ⟨c, _, rfl⟩ := hu; rfl

theorem info3 : (Tryz.prog.info? 3).map (fun i => (i.zero, i.size, i.bytes)) = some (some (.int .i64 0), 1, 8) := by kernel_rfl
theorem info5 : (Tryz.prog.info? 5).map (fun i => (i.zero, i.size, i.bytes)) = some (some (.int .u8 0), 1, 1) := by kernel_rfl
theorem info9 : (Tryz.prog.info? 9).map (fun i => (i.zero, i.size, i.bytes)) = some (some (.string ⟨#[]⟩), 1, 16) := by kernel_rfl

theorem bcell {W w1 : World} (hb : Below W.heap.size W w1) : (∀ b o, b < W.heap.size → w1.cell? ⟨b, o, none⟩ = W.cell? ⟨b, o, none⟩) ∧ (∀ b o, b < W.heap.size → w1.frozen? ⟨b, o, none⟩ = W.frozen? ⟨b, o, none⟩) :=
  ⟨fun b o h => hb.cell (p := ⟨b, o, none⟩) h, fun b o h => hb.frozen (p := ⟨b, o, none⟩) h⟩
theorem below_drewN {B : Nat} {a w : World} (h : Below B a w) (n : Nat) : Below B a (w.drewN n) := ⟨h.os, h.tape, h.output, h.size, h.block⟩

/-- What is appended lies in the block that was made last. -/
theorem news_new (w : World) (cs : Array Value) (t : TypeId) : ∀ j u, cs.toList[j]? = some u → (w.alloc (.cells cs t)).cell? ((⟨w.heap.size, 0, none⟩ : Addr).add j) = some u :=
  World.news_of_block (heap_alloc_new w _)

theorem bcells_getElem? (l : List UInt8) (j : Nat) : (bcells l)[j]? = (l[j]?).map fun c => .int .u8 (c.toNat : Int) := by simp [bcells]
/-- The numbers of bytes. -/
def bnums (l : List UInt8) : List Int := l.map fun c => (c.toNat : Int)
theorem bnums_cells (l : List UInt8) : (bnums l).map (Value.int .u8) = bcells l := by simp [bnums, bcells]
theorem strOfNums_bnums (l : List UInt8) : strOfNums (bnums l) = ⟨l.toArray⟩ := by
  unfold strOfNums bnums
  congr 1
  congr 1
  rw [List.map_map]
  exact List.map_id'' (fun c => by simp) l
theorem bnums_getD (l : List UInt8) (i : Nat) (h : i < l.length) : (bnums l).getD i 0 = (l[i].toNat : Int) := by simp [bnums, List.getD, h]

/-- 'string(b)' of a row of the call's own. -/
theorem convert_own {w : World} {base n : Nat} {v : Value} {l : List UInt8} (h : w.ownsRow base 5 1 v n (bcells l)) : (convert 24 9 v).run Tryz.prog w = .ok (.string ⟨l.toArray⟩) w := by
  have hl : l.length = n := by have := h.1; rw [bcells_len] at this; omega
  rcases h.2 with ⟨rfl, hn⟩ | ⟨g, cap, cur, rfl, _, hg, hnc, _, hcs, htk⟩
  · rw [run_convert_bytes_nil (P := Tryz.prog) w 24 5 Tryz.underlying24 Tryz.underlying5 0 0 9 Tryz.underlying9]
    obtain rfl : l = [] := List.eq_nil_of_length_eq_zero (by omega)
    rfl
  · rw [run_convert_bytes_arg (P := Tryz.prog) w 24 5 Tryz.underlying24 Tryz.underlying5 g 0 n cap (bnums l) (by simp [bnums, hl]) (fun i hi => ?_) 9 Tryz.underlying9, strOfNums_bnums]
    have hc := h.cells (g := g) rfl i (.int .u8 (l[i]'(by omega)).toNat) (by rw [bcells_getElem?, List.getElem?_eq_getElem (by omega)]; rfl)
    rw [bnums_getD l i (by omega), ← hc]
    congr 1
    unfold Addr.add
    split <;> simp_all

/-- The world on the left, so that a walk keeps its name. -/
theorem flipW {P : Program} {f : FuncId} {args : Array Value} {w : World} {x : Ending} (h : Calls P f args w fun e w' => e = x ∧ w' = w) : Calls P f args w fun e w' => e = x ∧ w = w' := h.mono fun _ _ ⟨a, b⟩ => ⟨a, b.symm⟩

/-- A callee that leaves the world alone, met in a quiet region. -/
theorem quietL {P : Program} {f : FuncId} {args : Array Value} {w : World} {n : Nat} {v : Value} (h : Calls P f args (w.drewN n) fun e w' => e = .returned v ∧ w.drewN n = w') : Calls P f args (w.drewN n) fun e w'' => e = .returned v ∧ ∃ m, w'' = w.drewN m :=
  h.mono fun _ _ ⟨a, b⟩ => ⟨a, n, b.symm⟩

theorem bnum_one {x : Int} (h0 : 0 ≤ x) (h1 : x ≤ 255) : [Value.int .u8 x] = bcells [UInt8.ofNat x.toNat] := by
  simp only [bcells, List.map_cons, List.map_nil]
  congr 2
  rw [UInt8.toNat_ofNat']
  omega

/-- What the call owns stays so in whatever world has only grown. -/
theorem own_below {w w' : World} {B e s : Nat} {v : Value} {n : Nat} {xs : List Value} (h : w.ownsRow B e s v n xs) (hb : Below w.heap.size w w') : w'.ownsRow B e s v n xs :=
  h.kept (row := none) ⟨hb.os, hb.tape, hb.output, hb.size, fun k hk _ => hb.block k hk⟩ (by cases hv : v.ownBlock <;> simp)
/-- How the walk asks whether two texts are one. -/
theorem str_same {a b : ByteArray} (h : a = b) : (a.toList == b.toList) = true := by rw [h]; simp
theorem str_other {a b : ByteArray} (h : ¬ a = b) : (a.toList == b.toList) = false := by
  rw [ByteArray.toList_eq, ByteArray.toList_eq]
  exact beq_eq_false_iff_ne.2 fun e => h (WideShapes.bytes_inj e)

theorem band15f : ∀ n : Fin 256, bits BinOp.and IntKind.u8 n.val 15 = (n.val : Int) % 16 := by decide +kernel
theorem band15 (c : UInt8) : bits BinOp.and IntKind.u8 (c.toNat : Int) 15 = (c.toNat : Int) % 16 := band15f ⟨c.toNat, c.toNat_lt⟩

theorem own_eq {w : World} {B e s : Nat} {v : Value} {n n' : Nat} {xs xs' : List Value} (h : w.ownsRow B e s v n xs) (hn : n = n') (hx : xs = xs') : w.ownsRow B e s v n' xs' := by subst hn hx; exact h
theorem own_lt {w : World} {B e s : Nat} {v : Value} {n : Nat} {xs : List Value} (h : w.ownsRow B e s v n xs) : ∀ k, v.ownBlock = some k → B ≤ k := fun k hk => (h.lt k hk).1

/-- 'string([]byte{x})'. -/
theorem convert_new (W : World) (l : List UInt8) (c : Nat) : (convert 24 9 (.slice (some ⟨W.heap.size, 0, none⟩) l.length c)).run Tryz.prog (W.alloc (.cells (bcells l).toArray 5)) = .ok (.string ⟨l.toArray⟩) (W.alloc (.cells (bcells l).toArray 5)) := by
  refine run_convert_bytes_back (P := Tryz.prog) _ 24 9 5 _ c l Tryz.underlying24 Tryz.underlying5 Tryz.underlying9 fun j hj => ?_
  exact news_new W _ 5 j _ (by simp [bcells, hj])
def oneB (x : Int) : ByteArray := ⟨#[UInt8.ofNat x.toNat]⟩
theorem oneB_size (x : Int) : (oneB x).size = 1 := rfl
theorem convert_new1 (W : World) (x : Int) (h0 : 0 ≤ x) (h1 : x ≤ 255) : (convert 24 9 (.slice (some ⟨W.heap.size, 0, none⟩) 1 1)).run Tryz.prog (W.alloc (.cells #[.int .u8 x] 5)) = .ok (.string (oneB x)) (W.alloc (.cells #[.int .u8 x] 5)) := by
  have h := convert_new W [UInt8.ofNat x.toNat] 1
  rw [← bnum_one h0 h1] at h
  exact h

/-- 'string(b)' of a piece of a block that is known. -/
theorem convert_at {W : World} {b o : Nat} {cur : Array Value} {t : TypeId} {fr : Nat × Nat} (h : W.heap[b]? = some (.cells cur t fr)) (l : List UInt8) (c : Nat) (hl : ∀ j u, (bcells l)[j]? = some u → cur[o + j]? = some u) :
    (convert 24 9 (.slice (some ⟨b, o, none⟩) l.length c)).run Tryz.prog W = .ok (.string ⟨l.toArray⟩) W := by
  refine run_convert_bytes_back (P := Tryz.prog) _ 24 9 5 _ c l Tryz.underlying24 Tryz.underlying5 Tryz.underlying9 fun j hj => ?_
  have hadd : (⟨b, o, none⟩ : Addr).add j = ⟨b, o + j, none⟩ := by unfold Addr.add; split <;> simp_all
  rw [hadd, cell_of_row W b (o + j) cur t fr h]
  exact hl j _ (by simp [bcells, hj])

/-- What the library's own variables hold, as the row lists them. -/
structure Lib0 (w : World) : Prop where
  maxlen : ∃ m, w.cell? ⟨0, 0, none⟩ = some (.int .i64 m)
  pow : Lib.TabIs Tryz.prog w "internal/strconv.uint64pow10" .u64 Lib.pow10Tab
  syn : ∃ tp p, w.var? Tryz.prog "strconv.ErrSyntax" = some #[.iface tp p]
  rng : ∃ tp p, w.var? Tryz.prog "strconv.ErrRange" = some #[.iface tp p]
  db : w.cell? ⟨5, 15, none⟩ = some (.int .u8 4)
theorem var_lives {w : World} {nm : String} {cs : Array Value} (h : w.var? Tryz.prog nm = some cs) : ∃ g, Tryz.prog.globalNamed nm = some g ∧ g < w.heap.size := by
  unfold World.var? at h
  cases hg : Tryz.prog.globalNamed nm with
  | none => rw [hg] at h; simp at h
  | some g =>
    refine ⟨g, rfl, ?_⟩
    rw [hg] at h
    simp only [Option.bind_some] at h
    rcases Nat.lt_or_ge g w.heap.size with hl | hl
    · exact hl
    · rw [Array.getElem?_eq_none hl] at h; cases h
theorem var_below {w w' : World} (hb : Below w.heap.size w w') {nm : String} {cs : Array Value} (h : w.var? Tryz.prog nm = some cs) : w'.var? Tryz.prog nm = some cs := by
  obtain ⟨g, hg, hl⟩ := var_lives h
  exact var?_below hb hg hl h
theorem Lib0.below {w w' : World} (h : Lib0 w) (hb : Below w.heap.size w w') : Lib0 w' := by
  obtain ⟨⟨m, hm⟩, h2, ⟨t1, p1, h3⟩, ⟨t2, p2, h4⟩, h5⟩ := h
  exact ⟨⟨m, (hb.cell (p := ⟨0, 0, none⟩) (World.block_lt_of_cell? w _ hm)).trans hm⟩, var_below hb h2, ⟨t1, p1, var_below hb h3⟩, ⟨t2, p2, var_below hb h4⟩, (hb.cell (p := ⟨5, 15, none⟩) (World.block_lt_of_cell? w _ h5)).trans h5⟩
end Go.Proofs.YtnlooggibopknaaGreatDoor

/- The walks of the small functions: each hands back what the plain word says, and leaves the world alone. -/
namespace Go.Proofs.YtnlooggibopknaaGreatDoor
open Go.RowKit

set_option maxHeartbeats 400000 in
theorem plain_any (c : Int) (w : World) (h0 : 0 ≤ c) (h1 : c ≤ 255) :
    Calls Tryz.prog 39 #[.int .u8 c] w fun e w' => e = .returned (.bool (keptN c)) ∧ w = w' := by
  go_enter Tryz.func39, Tryz.ntmps39
  go_wp2
  all_goals go_ret
  all_goals exact ⟨ret_bool (by rw [Bool.eq_iff_iff]; simp [keptN]; try omega), rfl⟩

set_option maxHeartbeats 400000 in
theorem kept_any (c : Int) (w : World) (h0 : 0 ≤ c) (h1 : c ≤ 255) :
    Calls Tryz.prog 40 #[.int .u8 c] w fun e w' => e = .returned (.bool (keptN c)) ∧ w = w' := by
  go_enter Tryz.func40, Tryz.ntmps40
  go_wp2
  all_goals go_ret
  all_goals exact ⟨ret_bool (by rw [Bool.eq_iff_iff]; simp [keptN]; try omega), rfl⟩

theorem digit_any (c ten : Int) (w : World) (h0 : 0 ≤ c) (h1 : c < 16) (h2 : 65 ≤ ten) (h3 : ten ≤ 97) :
    Calls Tryz.prog 41 #[.int .u8 c, .int .u8 ten] w fun e w' => e = .returned (.int .u8 (digN c ten)) ∧ w = w' := by
  go_enter Tryz.func41, Tryz.ntmps41
  go_wp2
  all_goals go_ret
  all_goals exact ⟨ret_int (by unfold digN; split <;> omega), rfl⟩

theorem value_any (c ten : Int) (w : World) (h0 : 0 ≤ c) (h1 : c ≤ 255) (h2 : 65 ≤ ten) (h3 : ten ≤ 97) :
    Calls Tryz.prog 43 #[.int .u8 c, .int .u8 ten] w fun e w' => e = .returned (.int .i64 (valN c ten)) ∧ w = w' := by
  go_enter Tryz.func43, Tryz.ntmps43
  go_wp2
  all_goals go_ret
  all_goals exact ⟨ret_int (by unfold valN; repeat (first | omega | split)), rfl⟩

theorem long_any (s : ByteArray) (lo hi : Int) (w : World) :
    Calls Tryz.prog 68 #[.string s, .int .i64 lo, .int .i64 hi] w fun e w' => e = .returned (.bool (longB s.size lo hi)) ∧ w = w' := by
  go_enter Tryz.func68, Tryz.ntmps68
  go_wp2
  all_goals go_ret
  all_goals exact ⟨ret_bool (by rw [Bool.eq_iff_iff]; simp [longB]; try omega), rfl⟩

theorem key_any (s : ByteArray) (w : World) :
    Calls Tryz.prog 55 #[.string s] w fun e w' => e = .returned (.bool (longB s.size 1 1024)) ∧ w = w' := by
  go_enter Tryz.func55, Tryz.ntmps55
  go_wp2
  all_goals go_ret
  all_goals exact ⟨ret_bool (by rw [Bool.eq_iff_iff]; simp [longB]; try omega), rfl⟩

theorem known_any (s : Int) (w : World) : Calls Tryz.prog 59 #[.int .i64 s] w fun e w' => e = .returned (.bool (knownN s)) ∧ w = w' := by
  go_enter Tryz.func59, Tryz.ntmps59
  go_wp2
  all_goals go_ret
  all_goals exact ⟨ret_bool (by rw [Bool.eq_iff_iff]; (try simp only [beq_iff_eq, beq_eq_false_iff_ne] at *); simp [knownN]; try omega), rfl⟩

theorem knownR_any (s : Int) (w : World) : Calls Tryz.prog 60 #[.int .i64 s] w fun e w' => e = .returned (.bool (knownN s)) ∧ w = w' := by
  go_enter Tryz.func60, Tryz.ntmps60
  go_wp2
  all_goals go_ret
  all_goals exact ⟨ret_bool (by rw [Bool.eq_iff_iff]; (try simp only [beq_iff_eq, beq_eq_false_iff_ne] at *); simp [knownN]; try omega), rfl⟩

theorem method_any (k : Int) (w : World) : Calls Tryz.prog 33 #[.int .i64 k] w fun e w' => e = .returned (.string (methodB k)) ∧ w = w' := by
  go_enter Tryz.func33, Tryz.ntmps33
  go_wp2
  all_goals go_ret
  all_goals exact ⟨ret_str (by (try simp only [beq_iff_eq, beq_eq_false_iff_ne] at *); unfold methodB; repeat (first | rfl | omega | split)), rfl⟩

theorem must_yes (w : World) : Calls Tryz.prog 47 #[.bool true] w fun e w' => e = .returned (.tuple #[]) ∧ w = w' := by
  go_enter Tryz.func47, Tryz.ntmps47
  go_wp2
  go_end0
  exact ⟨rfl, rfl⟩

theorem must_no (w : World) : Calls Tryz.prog 47 #[.bool false] w fun e w' => e = .panicked [{ v := .iface 3 (.int .i64 400), recovered := false }] ∧ w = w' := by
  go_enter Tryz.func47, Tryz.ntmps47
  go_wp2
  exact ⟨rfl, rfl, rfl⟩
end Go.Proofs.YtnlooggibopknaaGreatDoor

/- The walks of the loops over a text: names. -/
namespace Go.Proofs.YtnlooggibopknaaGreatDoor
open Go.RowKit

set_option maxHeartbeats 400000 in
theorem named_any (s : ByteArray) (w : World) (hs : s.size ≤ maxLen) :
    Calls Tryz.prog 67 #[.string s] w fun e w' => e = .returned (.bool (nameB s)) ∧ w = w' := by
  unfold maxLen at hs
  go_enter Tryz.func67, Tryz.ntmps67
  go_wp2
  go_loop [7] (fun i => ∃ k : Nat, k ≤ s.size ∧ (s.data.toList.take k).all (fun c => nameN c.toNat) = true ∧ i = .int .i64 k) (fun i => s.size - (intOf i).toNat)
  case atStart => exact ⟨0, Nat.zero_le _, by simp, rfl⟩
  case round =>
    obtain ⟨k, hk, ha, rfl⟩ := hrel
    have HA := Lib.hid ha
    clear ha
    by_cases hlt : k < s.size
    · have HS := Lib.hid (all_snoc (fun c => nameN c.toNat) s k hlt)
      have HF := Lib.hid (all_false (fun c => nameN c.toNat) s k hlt)
      go_wp2
      all_goals first
        | (go_round
           case rel => exact ⟨k + 1, by omega, by rw [HS.out, HA.out]; (try simp only [beq_iff_eq, Bool.not_eq_false', decide_eq_true_eq] at *); simp [nameN]; omega, by go_num⟩
           case measure => simp [intOf]; omega)
        | (go_ret
           exact ⟨ret_bool (by unfold nameB; rw [HF.out (by (try simp only [beq_eq_false_iff_ne, Bool.not_eq_true', decide_eq_false_iff_not] at *); simp [nameN]; omega), Bool.and_false]), rfl⟩)
    · have HT := Lib.hid (take_all s k (by omega))
      go_wp2_with (go_at_call 68; refine (long_any _ _ _ _).mono ?_; rintro e w' ⟨rfl, rfl⟩)
      go_ret
      exact ⟨ret_bool (by unfold nameB; rw [← HT.out, HA.out, Bool.and_true]), rfl⟩
end Go.Proofs.YtnlooggibopknaaGreatDoor

/- An op as the model holds it: its plain parts, the rows that it points to, when it is right. -/
namespace Go.Proofs.YtnlooggibopknaaGreatDoor
open Go.RowKit

/-- A slice reads as these cells. -/
def RowIn (w : World) (v : Value) (xs : List Value) : Prop :=
  (∃ a c, v = .slice a 0 c ∧ xs = []) ∨ ∃ b o c, 0 < xs.length ∧ v = .slice (some ⟨b, o, none⟩) xs.length c ∧ b < w.heap.size ∧ ∀ j u, xs[j]? = some u → w.cell? ⟨b, o + j, none⟩ = some u
theorem RowIn.below {w w' : World} {v : Value} {xs : List Value} (h : RowIn w v xs) (hb : Below w.heap.size w w') : RowIn w' v xs := by
  rcases h with h | ⟨b, o, c, h0, h1, h2, h3⟩
  · exact .inl h
  · exact .inr ⟨b, o, c, h0, h1, Nat.lt_of_lt_of_le h2 hb.size, fun j u hj => ((bcell hb).1 b (o + j) h2).trans (h3 j u hj)⟩
theorem RowIn.form {w : World} {v : Value} {xs : List Value} (h : RowIn w v xs) : ∃ a c, v = .slice a xs.length c := by
  rcases h with ⟨a, c, rfl, rfl⟩ | ⟨b, o, c, h0, rfl, _⟩
  · exact ⟨a, c, rfl⟩
  · exact ⟨_, c, rfl⟩
theorem RowIn.nil (w : World) (a : Option Addr) (c : Nat) : RowIn w (.slice a 0 c) [] := .inl ⟨a, c, rfl, rfl⟩
theorem RowIn.own {w : World} {base e n : Nat} {v : Value} {xs : List Value} (h : w.ownsRow base e 1 v n xs) : RowIn w v xs := by
  have hn : xs.length = n := by have := h.1; omega
  by_cases h0 : n = 0
  · rcases h.2 with ⟨rfl, _⟩ | ⟨g, cap, cur, rfl, _⟩
    · have : xs = [] := List.eq_nil_of_length_eq_zero (by omega)
      subst this h0; exact .inl ⟨_, _, rfl, rfl⟩
    · have : xs = [] := List.eq_nil_of_length_eq_zero (by omega)
      subst this h0; exact .inl ⟨_, _, rfl, rfl⟩
  · obtain ⟨g, cap, rfl, _, hg⟩ := h.form (by omega)
    subst hn
    refine .inr ⟨g, 0, cap, by omega, rfl, hg, fun j u hj => ?_⟩
    have := h.cells (g := g) rfl j u hj
    rw [← this]
    unfold Addr.add
    split <;> simp_all

structure O where
  id : Nat
  kind : Int
  bu : ByteArray
  ke : ByteArray
  af : ByteArray
  n : Int
  up : Nat
  ps : List Int
  da : List UInt8

def zeroO : O := ⟨0, 0, ⟨#[]⟩, ⟨#[]⟩, ⟨#[]⟩, 0, 0, [], []⟩
abbrev opV (o : O) (pv dv : Value) : Value := .agg #[.int .u64 o.id, .int .i64 o.kind, .string o.bu, .string o.ke, .string o.af, .int .i64 o.n, .int .u64 o.up, pv, dv]

def atI (l : List Int) (k : Nat) : Int := l.getD k 0
def part1 (l : List Int) (i : Nat) : Bool := decide (1 ≤ atI l i) && decide (atI l i ≤ 10000) && (i == 0 || decide (atI l (i - 1) < atI l i))
def risesB (l : List Int) : Bool := decide (1 ≤ l.length) && decide (l.length ≤ 10000) && (List.range l.length).all (part1 l)
theorem rises_snoc (l : List Int) (k : Nat) : (List.range (k + 1)).all (part1 l) = ((List.range k).all (part1 l) && part1 l k) := by rw [List.range_succ, List.all_append]; simp
theorem rises_no (l : List Int) (k : Nat) (h : k < l.length) (hp : part1 l k = false) : risesB l = false := by
  unfold risesB
  have : (List.range l.length).all (part1 l) = false := by rw [List.all_eq_false]; exact ⟨k, by simp [h], by simp [hp]⟩
  rw [this, Bool.and_false]

/-- When an op is right. -/
def chkB (o : O) : Bool :=
  if o.kind = 1 ∨ o.kind = 2 then nameB o.bu && o.ke.size == 0 && o.af.size == 0 && o.n == 0 && o.up == 0 && o.ps.length == 0 && o.da.length == 0
  else if o.kind = 3 then nameB o.bu && longB o.ke.size 1 1024 && o.af.size == 0 && o.n == 0 && o.up == 0 && o.ps.length == 0 && decide (o.da.length ≤ 16777216)
  else if o.kind = 4 ∨ o.kind = 5 ∨ o.kind = 7 then nameB o.bu && longB o.ke.size 1 1024 && o.af.size == 0 && o.n == 0 && o.up == 0 && o.ps.length == 0 && o.da.length == 0
  else if o.kind = 6 then nameB o.bu && longB o.ke.size 0 1024 && longB o.af.size 0 1024 && longB o.n 1 1000 && o.up == 0 && o.ps.length == 0 && o.da.length == 0
  else if o.kind = 8 then o.bu.size == 0 && o.ke.size == 0 && o.af.size == 0 && longB o.n 1 10000 && o.ps.length == 0 && decide (o.da.length ≤ 16777216)
  else if o.kind = 9 then o.bu.size == 0 && o.ke.size == 0 && o.af.size == 0 && o.n == 0 && risesB o.ps && o.da.length == 0
  else if o.kind = 10 then o.bu.size == 0 && o.ke.size == 0 && o.af.size == 0 && o.n == 0 && o.ps.length == 0 && o.da.length == 0
  else false

/-- The numbers lie in their types. -/
structure OkO (o : O) : Prop where
  id : o.id < 2 ^ 64
  up : o.up < 2 ^ 64
  n0 : -9223372036854775808 ≤ o.n
  n1 : o.n ≤ 9223372036854775807
end Go.Proofs.YtnlooggibopknaaGreatDoor
