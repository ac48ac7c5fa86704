/- What all rows of this seat share: the listed variables as the walks want them, a world that fits, an op argument opened. -/
import Derived.Test.YtnlooggibopknaaGreatDoorRows
import Derived.Test.YtnlooggibopknaaGreatDoorCards
import Derived.Test.YtnlooggibopknaaGreatDoorTie
import Derived.Test.YtnlooggibopknaaGreatDoorW41
import Derived.ProofKit
import Derived.OpenShut
import Derived.SizedLaws
import Derived.Deep.DeepHandedRow
import Derived.Deep.DeepWitnessRowRef
import Derived.Deep.DeepLaidRun
import Derived.Deep.Fields
import Derived.ChangeSlices
import Derived.Lib.LaidTab
import Derived.Lib.LaidU8
import Derived.Lib.SmallJoins
import Derived.Stop.LaidErr
import Derived.Shelf.Vars
namespace Go.Proofs.YtnlooggibopknaaGreatDoor
open Go.Joins Go.ChangeShapes Go.WideShapes Go.ChangeAt Go.RowKit Go.Deep
open Go.ChangeMaps (open_string shut_string)

theorem own : ownKnob Tryz.prog.godebug = none := by kernel_rfl
theorem laidOut : laidOutB Tryz.prog = true := by kernel_rfl
abbrev laidL : List (String × DataW Unit) := Rows.frontPrintsRow.laid

theorem gPowT : (Tryz.prog.globals[1]?).map (·.type) = some 160 := by kernel_rfl
theorem gSynT : (Tryz.prog.globals[2]?).map (·.type) = some 109 := by kernel_rfl
theorem gRngT : (Tryz.prog.globals[3]?).map (·.type) = some 109 := by kernel_rfl
theorem gDb : Tryz.prog.globalNamed "math/bits.deBruijn64tab" = some 5 := by kernel_rfl
theorem gDbT : (Tryz.prog.globals[5]?).map (·.type) = some 174 := by kernel_rfl
theorem cells160 : Tryz.prog.cellsOf 160 = 20 := by kernel_rfl
theorem cells174 : Tryz.prog.cellsOf 174 = 64 := by kernel_rfl
theorem cells5 : Tryz.prog.cellsOf 5 = 1 := by kernel_rfl
theorem cells3 : Tryz.prog.cellsOf 3 = 1 := by kernel_rfl
theorem cells9 : Tryz.prog.cellsOf 9 = 1 := by kernel_rfl
theorem cells26 : Tryz.prog.cellsOf 26 = 9 := by kernel_rfl
theorem cells37 : Tryz.prog.cellsOf 37 = 1 := by kernel_rfl
theorem cells172 : Tryz.prog.cellsOf 172 = 1 := by kernel_rfl
theorem star : "*" ++ "errors.errorString" = "*errors.errorString" := by decide
theorem row170 (u : TypeId) (h : Tryz.prog.typeName? 3 u = some "*errors.errorString") : u = 170 :=
  typeName_ptr_named (nm := "errors.errorString") (by rw [star]; kernel_rfl) (by kernel_rfl) (by decide) u (by rw [star]; exact h)
/-- math/bits.deBruijn64tab's numbers. -/
def dbTab : List Int := [0, 1, 56, 2, 57, 49, 28, 3, 61, 58, 42, 50, 38, 29, 17, 4, 62, 47, 59, 36, 45, 43, 51, 22, 53, 39, 33, 30, 24, 18, 12, 5, 63, 55, 48, 27, 60, 41, 37, 16, 46, 35, 44, 21, 52, 32, 23, 11, 54, 26, 40, 15, 34, 20, 31, 10, 25, 14, 19, 9, 13, 8, 7, 6]

theorem lib0_of {W : World} (hH : laidMetH Tryz.prog laidL W) (hsh : W.ShapedOpen Tryz.prog) : Lib0 W := by
  have h : laidMet Tryz.prog laidL W := hH
  refine ⟨cell_of_shapedOpen_int hsh (g := 0) (t := 3) (zero := #[.int .i64 0]) (of_decide_eq_true (by kernel_rfl)) (by kernel_rfl) rfl (by kernel_rfl) (by kernel_rfl) Tryz.underlying3, ?_, ?_, ?_, ?_⟩
  · exact Lib.tabIs_of_head (rest := _) gPow gPowT Tryz.underlying160 Tryz.underlying22 (by kernel_rfl) cells160 h.tail.tail
  · obtain ⟨a, s, hv, -, -, -⟩ := laid_sentinel h.tail.tail.tail.tail.tail gSyn gSynT Tryz.underlying109 row170 Tryz.underlying170 Tryz.underlying172 rfl rfl Tryz.underlying9 cells172 cells9
    exact ⟨_, _, hv⟩
  · obtain ⟨a, s, hv, -, -, -⟩ := laid_sentinel h.tail.tail.tail.tail gRng gRngT Tryz.underlying109 row170 Tryz.underlying170 Tryz.underlying172 rfl rfl Tryz.underlying9 cells172 cells9
    exact ⟨_, _, hv⟩
  · have h5 : Lib.TabIs Tryz.prog W "math/bits.deBruijn64tab" .u8 dbTab := Lib.tabIs_of_head (rest := _) gDb gDbT Tryz.underlying174 Tryz.underlying5 cells5 cells174 h.tail
    exact h5.cell gDb 15 (by decide)

section
variable {H : Type} {enc : TypeId × Value → H} {W : World}
/-- A struct of one-cell fields, by value, of whatever number of fields. -/
theorem open_struct {P : Program} {base : Nat} {spare : Nat → Bool} {held : Bool} {r : Reach} {b0 : Nat} {t : TypeId} {fs : Array Field} {v : Value} {d : DataW H} {p : List MemPlace} (hs : P.underlying t = some (.struct fs)) (hone : oneCellFields P fs = true) (hC : P.cellsOf t = fs.size)
    (hv : Value.okWide P W r b0 t v) (h : DataW.Trod enc P W base spare held t v d p) :
    ∃ (l : List Value) (ys : List (DataW H × List MemPlace)) (n : Nat), v = .agg ⟨l⟩ ∧ l.length = fs.size ∧ ys.length = fs.size ∧ d = .agg (ys.map (·.1)) ∧ p = ys.flatMap (·.2) ∧
      ∀ (j : Nat) (f : Field) (x : Value), fs[j]? = some f → l[j]? = some x → ∃ y, ys[j]? = some y ∧ DataW.trod enc P W base spare held n f.type [x] = some y := by
  obtain ⟨cs, rfl, hsz⟩ := okWide_struct hs hv
  obtain ⟨l⟩ := cs
  have hl : l.length = fs.size := hsz.trans hC
  obtain ⟨fuel, hf⟩ := h
  obtain ⟨xs, n, _, hx, _, hlen, hg⟩ := DataW.trod_struct hs hf
  simp only [Prod.mk.injEq] at hx
  refine ⟨l, xs, n, rfl, hl, hlen, hx.1, hx.2, fun j f x hj hx' => ?_⟩
  obtain ⟨o0, k0⟩ := hone_of hone j f hj
  have hjl : j < fs.size := (Array.getElem?_eq_some_iff.1 hj).1
  have h1 := hg j f hj
  rw [o0, k0] at h1
  have hy : xs[j]? = some (xs[j]'(by omega)) := List.getElem?_eq_getElem (by omega)
  refine ⟨_, hy, ?_⟩
  have hx1 : l[j]'(by omega) = x := by
    have := List.getElem?_eq_getElem (l := l) (i := j) (by omega)
    rw [this] at hx'
    exact Option.some.inj hx'
  have : (((Value.agg ⟨l⟩).cells.toList).drop j).take 1 = [x] := by
    show (l.drop j).take 1 = [x]
    rw [List.drop_eq_getElem_cons (by omega), hx1]
    rfl
  rw [this] at h1
  rw [h1, hy]

theorem list9 {α : Type} {l : List α} (h : l.length = 9) : ∃ a b c d e f g i j, l = [a, b, c, d, e, f, g, i, j] := by
  match l, h with
  | [a, b, c, d, e, f, g, i, j], _ => exact ⟨a, b, c, d, e, f, g, i, j, rfl⟩

/-- A []int as the walks want it. -/
theorem open_row_ints {n : Nat} {x : Value} {y : DataW H × List MemPlace} (h : DataW.trod enc Tryz.prog W 0 (fun _ => true) true n 23 [x] = some y) :
    ∃ (l : List Int) (a : Option Addr) (c : Nat), x = .slice a l.length c ∧ l.length ≤ c ∧ RowIn W x (icells l) ∧ (∀ z ∈ l, (Lit.int .i64 z).wf = true) ∧ (l = [] ∨ ∃ spare, y.1 = .slice (lits .i64 l) spare) := by
  rcases open_ints Tryz.underlying23 Tryz.underlying3 cells3 h with ⟨hx, rfl⟩ | ⟨a, len, cap, zs, hx, _, hl, _, hz, rfl, hcell, hwf⟩
  · obtain rfl := List.singleton_inj.1 hx
    exact ⟨[], none, 0, rfl, Nat.le_refl _, RowIn.nil _ _ _, fun z hz => by simp at hz, .inl rfl⟩
  · obtain rfl := List.singleton_inj.1 hx
    simp only [if_true] at hz
    have hlen : (zs.take len).length = len := by simp; omega
    refine ⟨zs.take len, some a, cap, by rw [hlen], by omega, ?_, fun z hm => hwf z (List.mem_of_mem_take hm), .inr ⟨_, rfl⟩⟩
    rcases Nat.eq_zero_or_pos len with h0 | h0
    · subst h0
      exact RowIn.nil _ _ _
    · obtain ⟨b, o, spot⟩ := a
      have hspot : spot = none := by simpa [Addr.add] using World.cell?_spot (hcell 0 (by omega))
      subst hspot
      refine .inr ⟨b, o, cap, by simp [icells]; omega, by rw [show (icells (zs.take len)).length = len by simp only [icells, List.length_map]; exact hlen], World.block_lt_of_cell? _ _ (hcell 0 (by omega)), fun j u hj => ?_⟩
      have hjl : j < len := by have := (List.getElem?_eq_some_iff.1 hj).1; simp [icells] at this; omega
      rw [← WideShapes.add_plain, hcell j (by omega)]
      rw [← hj]
      simp only [icells, List.getElem?_map, List.getElem?_take_of_lt hjl, List.getD, List.getElem?_eq_getElem (show j < zs.length by omega), Option.map_some, Option.getD_some]

theorem byte_back {l : List Int} (h : ∀ z ∈ l, (Lit.int .u8 z).wf = true) : (l.map fun z => UInt8.ofNat z.toNat).map (fun c => (Value.int .u8 (c.toNat : Int))) = l.map (Value.int .u8) := by
  rw [List.map_map]
  apply List.map_congr_left
  intro z hz
  have hw := h z hz
  have e1 : IntKind.u8.min = 0 := rfl
  have e2 : IntKind.u8.max = 255 := rfl
  simp only [Lit.wf, e1, e2, Bool.and_eq_true, decide_eq_true_eq] at hw
  simp only [Function.comp_apply]
  congr 1
  rw [UInt8.toNat_ofNat']
  omega

/-- A []byte as the walks want it. -/
theorem open_row_bytes {n : Nat} {x : Value} {y : DataW H × List MemPlace} (h : DataW.trod enc Tryz.prog W 0 (fun _ => true) true n 24 [x] = some y) :
    ∃ (l : List UInt8) (a : Option Addr) (c : Nat), x = .slice a l.length c ∧ l.length ≤ c ∧ RowIn W x (bcells l) ∧ (l = [] ∨ ∃ elems spare, elems.length = l.length ∧ y.1 = .slice elems spare) := by
  rcases open_ints Tryz.underlying24 Tryz.underlying5 cells5 h with ⟨hx, rfl⟩ | ⟨a, len, cap, zs, hx, _, hl, _, hz, rfl, hcell, hwf⟩
  · obtain rfl := List.singleton_inj.1 hx
    exact ⟨[], none, 0, rfl, Nat.le_refl _, RowIn.nil _ _ _, .inl rfl⟩
  · obtain rfl := List.singleton_inj.1 hx
    simp only [if_true] at hz
    have hlen : (zs.take len).length = len := by simp; omega
    refine ⟨(zs.take len).map fun z => UInt8.ofNat z.toNat, some a, cap, by rw [List.length_map, hlen], by rw [List.length_map]; omega, ?_, .inr ⟨_, _, by simp [lits], rfl⟩⟩
    have hbc : bcells ((zs.take len).map fun z => UInt8.ofNat z.toNat) = (zs.take len).map (Value.int .u8) := byte_back fun z hm => hwf z (List.mem_of_mem_take hm)
    rw [hbc]
    rcases Nat.eq_zero_or_pos len with h0 | h0
    · subst h0
      exact RowIn.nil _ _ _
    · obtain ⟨b, o, spot⟩ := a
      have hspot : spot = none := by simpa [Addr.add] using World.cell?_spot (hcell 0 (by omega))
      subst hspot
      refine .inr ⟨b, o, cap, by simp; omega, by rw [show ((zs.take len).map (Value.int .u8)).length = len by simp only [List.length_map]; exact hlen], World.block_lt_of_cell? _ _ (hcell 0 (by omega)), fun j u hj => ?_⟩
      have hjl : j < len := by have := (List.getElem?_eq_some_iff.1 hj).1; simp at this; omega
      rw [← WideShapes.add_plain, hcell j (by omega)]
      rw [← hj]
      simp only [List.getElem?_map, List.getElem?_take_of_lt hjl, List.getD, List.getElem?_eq_getElem (show j < zs.length by omega), Option.map_some, Option.getD_some]

theorem wf_u64 {z : Int} (h : (Lit.int .u64 z).wf = true) : 0 ≤ z ∧ z < 18446744073709551616 := by
  have e1 : IntKind.u64.min = 0 := rfl
  have e2 : IntKind.u64.max = 18446744073709551615 := rfl
  simp only [Lit.wf, e1, e2, Bool.and_eq_true, decide_eq_true_eq] at h
  omega
theorem wf_i64 {z : Int} (h : (Lit.int .i64 z).wf = true) : -9223372036854775808 ≤ z ∧ z ≤ 9223372036854775807 := by
  have e1 : IntKind.i64.min = -9223372036854775808 := rfl
  have e2 : IntKind.i64.max = 9223372036854775807 := rfl
  simp only [Lit.wf, e1, e2, Bool.and_eq_true, decide_eq_true_eq] at h
  omega
theorem reach_eq : reachBytes = 140737488351232 := rfl
theorem bytes5 : Tryz.prog.bytesOf 5 = 1 := by kernel_rfl
theorem bytes3 : Tryz.prog.bytesOf 3 = 8 := by kernel_rfl

set_option maxRecDepth 100000 in
/-- An op argument as the walks want it. -/
theorem open_op {r : Reach} {b0 : Nat} {v : Value} {d : DataW H} {p : List MemPlace} (hv : Value.okWide Tryz.prog W r b0 26 v) (h : DataW.Trod enc Tryz.prog W 0 (fun _ => true) true 26 v d p) :
    ∃ (o : O) (pa da : Option Addr) (pc dc : Nat), v = opV o (.slice pa o.ps.length pc) (.slice da o.da.length dc) ∧ RowIn W (.slice pa o.ps.length pc) (icells o.ps) ∧ RowIn W (.slice da o.da.length dc) (bcells o.da) ∧ o.ps.length ≤ pc ∧ o.da.length ≤ dc ∧ OkO o ∧
      (∀ z ∈ o.ps, (Lit.int .i64 z).wf = true) ∧ (Lit.int .i64 o.kind).wf = true ∧ ((∀ n ∈ d.weights Tryz.prog 26, n ≤ reachBytes) → RdO o) := by
  obtain ⟨l, ys, n, rfl, hl, hy, rfl, rfl, hall⟩ := open_struct Tryz.underlying26 (by kernel_rfl) (by rw [cells26]; rfl) hv h
  obtain ⟨v0, v1, v2, v3, v4, v5, v6, v7, v8, rfl⟩ := list9 hl
  obtain ⟨y0, y1, y2, y3, y4, y5, y6, y7, y8, rfl⟩ := list9 hy
  obtain ⟨_, e0, h0⟩ := hall 0 _ v0 rfl rfl
  obtain ⟨_, e1, h1⟩ := hall 1 _ v1 rfl rfl
  obtain ⟨_, e2, h2⟩ := hall 2 _ v2 rfl rfl
  obtain ⟨_, e3, h3⟩ := hall 3 _ v3 rfl rfl
  obtain ⟨_, e4, h4⟩ := hall 4 _ v4 rfl rfl
  obtain ⟨_, e5, h5⟩ := hall 5 _ v5 rfl rfl
  obtain ⟨_, e6, h6⟩ := hall 6 _ v6 rfl rfl
  obtain ⟨_, e7, h7⟩ := hall 7 _ v7 rfl rfl
  obtain ⟨_, e8, h8⟩ := hall 8 _ v8 rfl rfl
  obtain rfl := Option.some.inj e0
  obtain rfl := Option.some.inj e1
  obtain rfl := Option.some.inj e2
  obtain rfl := Option.some.inj e3
  obtain rfl := Option.some.inj e4
  obtain rfl := Option.some.inj e5
  obtain rfl := Option.some.inj e6
  obtain rfl := Option.some.inj e7
  obtain rfl := Option.some.inj e8
  obtain ⟨z0, k0, rfl, w0⟩ := DataW.trod_int Tryz.underlying22 h0
  obtain ⟨z1, k1, rfl, w1⟩ := DataW.trod_int Tryz.underlying3 h1
  obtain ⟨s2, k2, rfl, w2⟩ := DataW.trod_string Tryz.underlying9 h2
  obtain ⟨s3, k3, rfl, w3⟩ := DataW.trod_string Tryz.underlying9 h3
  obtain ⟨s4, k4, rfl, w4⟩ := DataW.trod_string Tryz.underlying9 h4
  obtain ⟨z5, k5, rfl, w5⟩ := DataW.trod_int Tryz.underlying3 h5
  obtain ⟨z6, k6, rfl, w6⟩ := DataW.trod_int Tryz.underlying22 h6
  obtain rfl := List.singleton_inj.1 k0
  obtain rfl := List.singleton_inj.1 k1
  obtain rfl := List.singleton_inj.1 k2
  obtain rfl := List.singleton_inj.1 k3
  obtain rfl := List.singleton_inj.1 k4
  obtain rfl := List.singleton_inj.1 k5
  obtain rfl := List.singleton_inj.1 k6
  obtain ⟨ps, pa, pc, rfl, hpc, hp, hpw, hps⟩ := open_row_ints h7
  obtain ⟨da, aa, dc, rfl, hdc, hd, hds⟩ := open_row_bytes h8
  have b0 := wf_u64 w0
  have b6 := wf_u64 w6
  have b5 := wf_i64 w5
  refine ⟨⟨z0.toNat, z1, s2, s3, s4, z5, z6.toNat, ps, da⟩, pa, aa, pc, dc, ?_, hp, hd, hpc, hdc, ⟨?_, ?_, b5.1, b5.2⟩, hpw, w1, fun hr => ?_⟩
  · have t0 : (z0.toNat : Int) = z0 := Int.toNat_of_nonneg b0.1
    have t6 : (z6.toNat : Int) = z6 := Int.toNat_of_nonneg b6.1
    show _ = Value.agg #[.int .u64 (z0.toNat : Int), .int .i64 z1, .string s2, .string s3, .string s4, .int .i64 z5, .int .u64 (z6.toNat : Int), .slice pa ps.length pc, .slice aa da.length dc]
    rw [t0, t6]
  · show z0.toNat < 2 ^ 64
    omega
  · show z6.toNat < 2 ^ 64
    omega
  · have e0 : ∀ parts : List (DataW H), (DataW.agg parts).weights Tryz.prog 26 = DataW.weightsEach Tryz.prog [22, 3, 9, 9, 9, 3, 22, 23, 24] parts := fun parts => by simp only [DataW.weights, Tryz.underlying26]; rfl
    rw [e0] at hr
    have hs : ∀ (j : Nat) (s : ByteArray), ([22, 3, 9, 9, 9, 3, 22, 23, 24] : List TypeId)[j]? = some 9 → (List.map (fun x : DataW H × List MemPlace => x.1) [(.lit (.int .u64 z0), []), (.lit (.int .i64 z1), []), (.lit (.string s2.data.toList), []), (.lit (.string s3.data.toList), []), (.lit (.string s4.data.toList), []), (.lit (.int .i64 z5), []), (.lit (.int .u64 z6), []), y7, y8])[j]? = some (.lit (.string s.data.toList)) → s.size ≤ 140737488355328 := fun j s h1 h2 => by
      have := hr _ (DataW.weights_mem_each h1 h2 s.data.toList.length (by simp [DataW.weights]))
      have e2 : s.data.toList.length = s.size := Array.length_toList
      rw [e2, reach_eq] at this
      omega
    refine ⟨hs 2 s2 rfl rfl, hs 3 s3 rfl rfl, hs 4 s4 rfl rfl, ?_, ?_⟩
    · rcases hps with rfl | ⟨spare, hps⟩
      · exact Nat.zero_le _
      · have := hr _ (DataW.weights_mem_each (j := 7) (t := 23) (d := .slice (lits .i64 ps) spare) rfl (by simp [hps]) (((lits (H := H) .i64 ps).length + spare.length) * Tryz.prog.bytesOf 3) (by simp [DataW.weights, Tryz.underlying23]))
        rw [bytes3, reach_eq] at this
        have e3 : (lits (H := H) .i64 ps).length = ps.length := by simp [lits]
        show ps.length ≤ _
        omega
    · rcases hds with rfl | ⟨elems, spare, hl8, hds⟩
      · exact Nat.zero_le _
      · have := hr _ (DataW.weights_mem_each (j := 8) (t := 24) (d := .slice elems spare) rfl (by simp [hds]) ((elems.length + spare.length) * Tryz.prog.bytesOf 5) (by simp [DataW.weights, Tryz.underlying24]))
        rw [bytes5, reach_eq] at this
        show da.length ≤ _
        omega
end

/-! A world that fits: two blocks more, the listed variables laid. -/
abbrev synS : ByteArray := ⟨#[105, 110, 118, 97, 108, 105, 100, 32, 115, 121, 110, 116, 97, 120]⟩
abbrev rngS : ByteArray := ⟨#[118, 97, 108, 117, 101, 32, 111, 117, 116, 32, 111, 102, 32, 114, 97, 110, 103, 101]⟩
def litsOf : DataW Unit → List Value
  | .agg l => l.flatMap fun | .lit (.int k z) => [.int k z] | .agg m => m.filterMap (fun | .lit (.int k z) => some (.int k z) | _ => none) | _ => []
  | _ => []
noncomputable def laidWorld (os : Os) : World :=
  let N := (World.settled Tryz.prog os).heap.size
  let w0 := World.holding Tryz.prog os ⟨#[.cells #[.string synS] 172, .cells #[.string rngS] 172], #[], []⟩
  let put (h : Array Obj) (g : Nat) (cs : Array Value) : Array Obj := h.modify g fun
    | .cells _ t frozen => .cells cs t frozen
    | o => o
  let h1 := put w0.heap 1 (litsOf Rows.laid_internal_strconv_uint64pow10).toArray
  let h2 := put h1 2 #[.iface 170 (.pointer (some ⟨N, 0, none⟩))]
  let h3 := put h2 3 #[.iface 170 (.pointer (some ⟨N + 1, 0, none⟩))]
  let h4 := put h3 4 (litsOf Rows.laid_math_bits_deBruijn32tab).toArray
  let h5 := put h4 5 (litsOf Rows.laid_math_bits_deBruijn64tab).toArray
  let h6 := put h5 6 (litsOf Rows.laid_unicode_utf8_first).toArray
  let h7 := put h6 7 (litsOf Rows.laid_unicode_utf8_acceptRanges).toArray
  { w0 with heap := h7 }
theorem laid_met (os : Os) (args : Array Value) : laidMet Tryz.prog laidL ((laidWorld os).forCall (fun _ _ => 0) ⟨#[], args, []⟩).memory :=
  laidMet_of_run3 10 (by kernel_rfl) (by kernel_rfl) (by kernel_rfl)
end Go.Proofs.YtnlooggibopknaaGreatDoor
