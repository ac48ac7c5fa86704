/- append onto a row that the call has made by a conversion (or any row whose spare may be written), at any source. -/
import Derived.Test.YtnlooggibopknaaGreatDoorMem
import Derived.ArgAppend
import Derived.Deep.Upon
import Derived.Deep.MidRow
import Derived.Deep.AppendSrc
import Derived.Lib.AtoiErrMem
import Derived.Handy
namespace Go.Proofs.YtnlooggibopknaaGreatDoor
open Go.RowKit

/-- A slice reads as these cells, and its length is within its capacity. -/
structure RowC (w : World) (v : Value) (xs : List Value) : Prop where
  row : RowIn w v xs
  cap : ∀ a n c, v = .slice a n c → n ≤ c
theorem RowC.below {w w' : World} {v : Value} {xs : List Value} (h : RowC w v xs) (hb : Below w.heap.size w w') : RowC w' v xs := ⟨h.row.below hb, h.cap⟩
theorem RowC.nil (w : World) (a : Option Addr) (c : Nat) : RowC w (.slice a 0 c) [] := ⟨RowIn.nil w a c, fun _ _ _ h => by cases h; omega⟩
theorem RowC.own {w : World} {base e n : Nat} {v : Value} {xs : List Value} (h : w.ownsRow base e 1 v n xs) : RowC w v xs :=
  ⟨RowIn.own h, fun a m c hv => by
    subst hv
    rcases h.2 with ⟨e, _⟩ | ⟨g, cap, cur, e, _, _, hn, _⟩
    · cases e; omega
    · cases e; omega⟩

theorem below_setCells (B b : Nat) {a : World} : ∀ (vs : List Value) (o : Nat) (w : World), Below B a w → B ≤ b → Below B a (w.setCells b o vs)
  | [], _, _, h, _ => h
  | _ :: r, o, _, h, hb => below_setCells B b r (o + 1) _ (h.setCell hb _) hb

theorem append_row {P : Program} (t ty _tx e _e' : TypeId) (i : TypeInfo) (z : Value) (bytes : Nat) (ht : P.underlying t = some (.slice e)) (hi : P.info? e = some i) (hz : i.zero = some z) (hsize : i.size = 1) (hby : i.bytes = bytes) (hzs : z.cells.size = 1)
    {B : Nat} {w0 W : World} (hb0 : Below B w0 W) (hBs : B ≤ W.heap.size) (b n cap : Nat) (hB : B ≤ b) (hbW : b < W.heap.size) (hcap : n ≤ cap) (olds : List Value) (hlo : olds.length = n) (holds : ∀ j u, olds[j]? = some u → W.cell? ⟨b, j, none⟩ = some u)
    (dv : Value) (news : List Value) (hd : RowIn W dv news) (h1 : ∀ u ∈ news, u.oneCell' = true)
    (hspare : ∀ j, n + j < cap → (W.cell? ⟨b, n + j, none⟩).isSome = true ∧ W.frozen? ⟨b, n + j, none⟩ = false)
    (b1 : n + news.length ≤ maxLen) (b2 : (n + news.length) * bytes ≤ 140737488355328) :
    ∃ v w', (Builtin.append_ #[t, t] ty #[.slice (some ⟨b, 0, none⟩) n cap, dv]).run P W = .ok v w' ∧ RowC w' v (olds ++ news) ∧ Below B w0 w' := by
  rcases hd with ⟨a, c, rfl, rfl⟩ | ⟨b', o', c, h0, rfl, hb', hc'⟩
  · refine ⟨.slice (some ⟨b, 0, none⟩) n cap, W, run_append_nothing W t t ty e i ht hi _ n cap hcap _ ?_, ?_, hb0⟩
    · cases a with
      | none => exact Src.ofNil W ht c
      | some a => exact Src.ofSlice W ht a 0 c [] (by simp) (by simp) (by simp)
    · rw [List.append_nil]
      refine ⟨?_, fun _ _ _ h => by cases h; exact hcap⟩
      by_cases hn : n = 0
      · have : olds = [] := List.eq_nil_of_length_eq_zero (by omega)
        subst this hn
        exact .inl ⟨_, _, rfl, rfl⟩
      · exact .inr ⟨b, 0, cap, by omega, by rw [hlo], hbW, fun j u hj => by rw [Nat.zero_add]; exact holds j u hj⟩
  · by_cases hr : n + news.length ≤ cap
    · have hsp : W.there b n news.length := fun j hj => hspare j (by omega)
      have hrun := run_append_room_cells (P := P) W t ty e i ht hi b 0 n cap ⟨b', o', none⟩ news.length c news (by rw [hsize]; omega) (fun j u hj => by rw [Addr.add_mid]; exact hc' j u hj) h1 hr
        (fun j hj => by rw [hsize, Nat.mul_one, Nat.zero_add]; exact (hsp j hj).1) (fun j hj => by rw [hsize, Nat.mul_one, Nat.zero_add]; exact (hsp j hj).2)
      rw [hsize, Nat.mul_one, Nat.zero_add] at hrun
      refine ⟨_, _, hrun, ⟨.inr ⟨b, 0, cap, by simp; omega, by simp [hlo], ?_, fun j u hj => ?_⟩, fun _ _ _ h => by cases h; exact hr⟩, below_setCells B b news n W hb0 hB⟩
      · have := (World.keptBut_setCells b (may := fun _ => True) news n W (fun _ _ => trivial)).size
        omega
      · rw [Nat.zero_add]
        by_cases hj2 : j < n
        · rw [List.getElem?_append_left (by omega)] at hj
          have := World.rangeAt_setCells_apart (w := W) (b' := b) (o' := 0) (cs := olds) (fun j v hv => by rw [Nat.zero_add]; exact holds j v hv) b n news (by right; left; omega) j u hj
          rw [Nat.zero_add] at this
          exact this
        · rw [List.getElem?_append_right (by omega), hlo] at hj
          have := World.rangeAt_setCells_same W b n news hsp (j - n) u hj
          rw [show n + (j - n) = j by omega] at this
          exact this
    · obtain ⟨v', w', hrun, r1, r2⟩ := run_append_arg_grows (P := P) W t ty e i z 1 bytes ht hi hz hsize hby hzs (by decide) ⟨b, 0, none⟩ n cap olds (by omega) (fun j u hj => by rw [Addr.add_mid, Nat.zero_add]; exact holds j u hj) ⟨b', o', none⟩ news.length c news (by omega) (fun j u hj => by rw [Addr.add_mid]; exact hc' j u hj) (by omega) b1 b2
      exact ⟨v', w', hrun, RowC.own r1, hb0.grown r2 hBs (fun k hk => by cases hk)⟩

/-- 'append([]byte(s), b...)'. -/
theorem append_conv (W : World) (s : ByteArray) (dv : Value) (l : List UInt8) (hd : RowIn W dv (bcells l)) (h1 : s.size + l.length ≤ 1073741824) :
    ∃ v w', (Builtin.append_ #[24, 24] 24 #[.slice (some ⟨W.heap.size, 0, none⟩) s.size (grownCap W s.size 0 5), dv]).run Tryz.prog (Lib.bytesWorld W 5 s) = .ok v w' ∧ RowC w' v (bcells (s.data.toList ++ l)) ∧ Below W.heap.size W w' := by
  obtain ⟨i0, hi, hz0, hz1, hz2⟩ := info_parts info5
  have hlen : (bcells l).length = l.length := bcells_len l
  have hss : s.data.toList.length = s.size := Array.length_toList
  have hcap : s.size ≤ grownCap W s.size 0 5 := grownCap_ge W s.size 0 5
  have hcs : (Lib.bytesCells W 5 s).size = grownCap W s.size 0 5 := by
    unfold Lib.bytesCells
    rw [Array.size_append, Array.size_map, Array.size_replicate]
    show s.size + (grownCap W s.size 0 5 - s.size) = _
    omega
  rw [bcells_app]
  refine append_row (P := Tryz.prog) 24 24 24 5 5 i0 (.int .u8 0) 1 Tryz.underlying24 hi hz0 hz1 hz2 rfl (Lib.bytesWorld_below W 5 s) (by rw [Lib.bytesWorld_size]; omega) W.heap.size s.size _ (Nat.le_refl _) (by rw [Lib.bytesWorld_size]; omega) hcap (bcells s.data.toList) (by rw [bcells_len, hss]) (fun j u hj => ?_) dv (bcells l) (hd.below (Lib.bytesWorld_below W 5 s)) (bcells_one l) (fun j hj => ?_) (by rw [hlen]; unfold maxLen; omega) (by rw [hlen]; omega)
  · have hjs : j < s.size := by have := (List.getElem?_eq_some_iff.1 hj).1; rw [bcells_len] at this; omega
    rw [Lib.bytesWorld_cell W 5 s j hjs, ← hj, bcells_getElem?]
    simp [List.getD, List.getElem?_eq_getElem (show j < s.data.toList.length by omega)]
  · have hn := Lib.bytesWorld_at_new W 5 s
    constructor
    · rw [cell_of_row _ _ _ _ _ _ hn]
      simp [hcs, hj]
    · unfold World.frozen?
      simp only [hn]
      simp; omega

/-- An append whose run is known, for the walk. -/
theorem wpList_append_run {P : Program} {w : World} {ops : Array Oper} {rest : List Oper} {o : Oper} {a : Act} {Q : Exit → Act → World → Prop}
    (hg : o.guard = none) (s x : Operand) (t : TypeId) (hop : o.op = Op.call { callee := Callee.builtin Builtin.append, args := #[s, x], argTypes := #[t, t] })
    (v1 v2 v : Value) (w' : World) (hs : a.eval s = v1) (hx : a.eval x = v2) (hr : (Builtin.append_ #[t, t] o.type #[v1, v2]).run P w = .ok v w') (h : wpList P ops Q rest (a.put o.dst v) w') :
    wpList P ops Q (o :: rest) a w := by
  refine wpList_plain hg fun K hK' => ?_
  unfold Oper.wp
  simp [execOp, hop, resolve, invoke, builtin, hs, hx, hr, Result.andThen]
  exact hK' _ _ h
end Go.Proofs.YtnlooggibopknaaGreatDoor
