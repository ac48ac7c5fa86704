/- The reference's Parse: its plain part. -/
import Derived.Test.YtnlooggibopknaaGreatDoorRo
import Derived.Test.YtnlooggibopknaaGreatDoorW33
import Derived.Test.YtnlooggibopknaaGreatDoorPl
import Derived.Test.YtnlooggibopknaaGreatDoorLc
import Derived.Deep.DeepCutAuto
namespace Go.Proofs.YtnlooggibopknaaGreatDoor
open Go.RowKit Go.Sort

theorem ends_neg {l : List UInt8} (h : atP l < 0) : endsI (l.take 65536) = -1 := by
  unfold atP at h
  unfold endsI
  rw [if_neg (by omega)]
theorem ends_pos {l : List UInt8} {k : Nat} (h : atP l = k) : endsI (l.take 65536) = ((k + 4 : Nat) : Int) := by
  unfold atP at h
  unfold endsI
  rw [h, if_pos (by omega)]
  omega
theorem head_bare (o : O) (len : ByteArray) (d : List UInt8) : headB { o with da := d } len = headB o len := rfl
/-- What a request's bytes are, of which a head was found. -/
structure ReqA (l : List UInt8) (n : Nat) (o : O) (m : Nat) (r : O) (len : ByteArray) (b : Bool) : Prop where
  c : chkB o = true
  ok : OkO o
  yes : b = true
  r : r = { o with da := [] }
  len : len = decB m
  lt : m < 10 ^ 19
  head : mkB (l.take n) = headB o (decB m)
theorem req_of {l : List UInt8} {k : Nat} {o : O} {m : Nat} {rest : List UInt8} {r : O} {len : ByteArray} {b : Bool} (hk : atP l = k) (hc : chkB o = true) (hO : OkO o) (hm : m < 10 ^ 19) (hl : l = bl (frontB o (decB m)) ++ (CC ++ rest))
    (hT : ∀ o l', OpeG (mkB (l.take (k + 4))) o l' → b = true ∧ r = { o with da := [] } ∧ len = l') : ReqA l (k + 4) o m r len b ∧ l.drop (k + 4) = rest ∧ l.length = k + 4 + rest.length := by
  have ha := at_of hc hm rest
  rw [← hl, hk] at ha
  have hk2 : (frontB o (decB m)).size = k := by omega
  have h1 : l.take (k + 4) = bl (headB o (decB m)) := by
    rw [headB_front, bl_app, show bl (sEnd ++ sEnd) = CC from rfl, hl, ← List.append_assoc, List.take_append, List.take_of_length_le (by rw [List.length_append, bl_len, hk2]; exact Nat.le_refl _)]
    rw [List.length_append, bl_len, hk2, show CC.length = 4 from rfl, Nat.sub_self, List.take_zero, List.append_nil]
  have h2 : mkB (l.take (k + 4)) = headB o (decB m) := by rw [h1]; exact mkB_of _
  obtain ⟨t1, t2, t3⟩ := hT o (decB m) ⟨hc, hO, dec13 m, h2⟩
  refine ⟨⟨hc, hO, t1, t2, t3, hm, h2⟩, ?_, ?_⟩
  · rw [hl]; exact drop_front hk2
  · rw [hl, List.length_append, List.length_append, bl_len, hk2, show CC.length = 4 from rfl]; omega
/-- What bytes are of which a head was found. -/
theorem par_cases {l : List UInt8} {k : Nat} {r : O} {len : ByteArray} {b : Bool} (hk : atP l = k) (hT : ∀ o l', OpeG (mkB (l.take (k + 4))) o l' → b = true ∧ r = { o with da := [] } ∧ len = l') :
    parseF l = (zeroO, 400) ∨ (∃ o, ReqA l (k + 4) o o.da.length r len b ∧ l.drop (k + 4) = o.da ∧ l.length = k + 4 + o.da.length ∧ o.da.length ≤ 16777216) ∨
      (∃ o m, ReqA l (k + 4) o m r len b ∧ o.da = [] ∧ (o.kind = 3 ∨ o.kind = 8) ∧ 16777216 < m) := by
  rcases parseF_only l with h | ⟨o, hc, hO, hp⟩ | h
  · exact .inl h
  · rw [printL_eq] at hp
    obtain ⟨h1, h2, h3⟩ := req_of hk hc hO (len_lt hc) hp.symm hT
    exact .inr (.inl ⟨o, h1, h2, h3, (sm_of_chk hc).da⟩)
  · rcases h with ⟨_, h2⟩ | ⟨o, m, rest, hc, hO, hd, hkd, hm1, hm2, hl⟩
    · omega
    · exact .inr (.inr ⟨o, m, (req_of hk hc hO hm2 hl hT).1, hd, hkd, hm1⟩)
structure ParK (l : List UInt8) (k : Nat) (r : O) (len : ByteArray) (b : Bool) : Prop where
  at_ : atP l = k
  tell : ∀ o l', OpeG (mkB (l.take (k + 4))) o l' → b = true ∧ r = { o with da := [] } ∧ len = l'
theorem par_1 {l : List UInt8} {k : Nat} {r : O} {len : ByteArray} (h : ParK l k r len false) : parseF l = (zeroO, 400) := by
  rcases par_cases h.at_ h.tell with h1 | ⟨o, h1, _⟩ | ⟨o, m, h1, _⟩
  · exact h1
  · exact absurd h1.yes (by decide)
  · exact absurd h1.yes (by decide)
theorem par_2 {l : List UInt8} {k : Nat} {r : O} {len : ByteArray} {b : Bool} (h : ParK l k r len b) (hne : headB r len ≠ mkB (l.take (k + 4))) : parseF l = (zeroO, 400) := by
  rcases par_cases h.at_ h.tell with h1 | ⟨o, h1, _⟩ | ⟨o, m, h1, _⟩
  · exact h1
  · exact absurd (by rw [h1.head, h1.r, h1.len]; rfl) hne
  · exact absurd (by rw [h1.head, h1.r, h1.len]; rfl) hne
theorem takes_dec {m : Nat} (hm : m < 10 ^ 19) : takesD (decB m) = true ∧ valD (bl (decB m)) = m := ⟨takesD_iff.2 ⟨m, hm, rfl⟩, by rw [bl_dec, valD_dec]⟩
theorem par_3 {l : List UInt8} {k : Nat} {r : O} {len : ByteArray} {b : Bool} (h : ParK l k r len b) (hd : takesD len = false) : parseF l = (zeroO, 400) := by
  rcases par_cases h.at_ h.tell with h1 | ⟨o, h1, _⟩ | ⟨o, m, h1, _⟩
  · exact h1
  · rw [h1.len, (takes_dec h1.lt).1] at hd; cases hd
  · rw [h1.len, (takes_dec h1.lt).1] at hd; cases hd
/-- A length that is too great. -/
theorem par_4 {l : List UInt8} {k : Nat} {r : O} {len : ByteArray} {b : Bool} (h : ParK l k r len b) (hv : 16777216 < valD (bl len)) (hno : ¬ ((r.kind = 3 ∨ r.kind = 8) ∧ chkB r = true)) : parseF l = (zeroO, 400) := by
  rcases par_cases h.at_ h.tell with h1 | ⟨o, h1, _, _, hd⟩ | ⟨o, m, h1, hd, hk, hm⟩
  · exact h1
  · rw [h1.len, (takes_dec h1.lt).2] at hv; omega
  · have e : ({ o with da := [] } : O) = o := by rw [← hd]
    have e2 := h1.r
    rw [e] at e2
    rw [e2] at hno
    exact absurd ⟨hk, h1.c⟩ hno
theorem ok_ln {r : O} (h : LnO r) : OkO r := ⟨h.id, h.up, by have := h.n0; omega, h.n1⟩
theorem front_of_head {l : List UInt8} {k : Nat} {r : O} {len : ByteArray} (hh : headB r len = mkB (l.take (k + 4))) : l = bl (frontB r len) ++ (CC ++ l.drop (k + 4)) := by
  have h1 := congrArg bl hh
  rw [bl_mk, headB_front, bl_app, show bl (sEnd ++ sEnd) = CC from rfl] at h1
  rw [← List.append_assoc, h1, List.take_append_drop]
theorem par_413 {l : List UInt8} {k : Nat} {r : O} {len : ByteArray} (hh : headB r len = mkB (l.take (k + 4))) (hda : r.da = []) (hln : LnO r) (hd : takesD len = true) (hv : 16777216 < valD (bl len)) (hk : r.kind = 3 ∨ r.kind = 8) (hc : chkB r = true) : parseF l = (zeroO, 413) := by
  obtain ⟨m, hm, rfl⟩ := takesD_iff.1 hd
  rw [(takes_dec hm).2] at hv
  exact parseF_large (.inr ⟨r, m, l.drop (k + 4), hc, ok_ln hln, hda, hk, hv, hm, front_of_head hh⟩)
theorem par_5 {l : List UInt8} {k : Nat} {r : O} {len : ByteArray} {b : Bool} (h : ParK l k r len b) (hv : valD (bl len) ≤ 16777216) (hne : k + 4 + valD (bl len) ≠ l.length) : parseF l = (zeroO, 400) := by
  rcases par_cases h.at_ h.tell with h1 | ⟨o, h1, _, hl, _⟩ | ⟨o, m, h1, hd, hk, hm⟩
  · exact h1
  · rw [h1.len, (takes_dec h1.lt).2] at hne; omega
  · rw [h1.len, (takes_dec h1.lt).2] at hv; omega
theorem par_6 {l : List UInt8} {k : Nat} {r : O} {len : ByteArray} {b : Bool} (h : ParK l k r len b) (hv : valD (bl len) ≤ 16777216) (hc : chkB (withDa r (l.drop (k + 4))) = false) : parseF l = (zeroO, 400) := by
  rcases par_cases h.at_ h.tell with h1 | ⟨o, h1, hd, hl, _⟩ | ⟨o, m, h1, hd, hk, hm⟩
  · exact h1
  · have e : withDa r (l.drop (k + 4)) = o := by rw [h1.r, hd]; rfl
    rw [e, h1.c] at hc
    cases hc
  · rw [h1.len, (takes_dec h1.lt).2] at hv; omega
theorem par_200 {l : List UInt8} {k : Nat} {r : O} {len : ByteArray} (hh : headB r len = mkB (l.take (k + 4))) (hln : LnO r) (hd : takesD len = true) (hl : k + 4 + valD (bl len) = l.length) (hc : chkB (withDa r (l.drop (k + 4))) = true) : parseF l = (withDa r (l.drop (k + 4)), 200) := by
  obtain ⟨m, hm, rfl⟩ := takesD_iff.1 hd
  rw [(takes_dec hm).2] at hl
  have hz : (l.drop (k + 4)).length = m := by rw [List.length_drop]; omega
  have hp : printL (withDa r (l.drop (k + 4))) = l := by
    rw [printL_eq]
    show bl (frontB r (decB (l.drop (k + 4)).length)) ++ (CC ++ l.drop (k + 4)) = l
    rw [hz]
    exact (front_of_head hh).symm
  have := parseF_print hc (show OkO (withDa r (l.drop (k + 4))) from ⟨hln.id, hln.up, by have := hln.n0; show -9223372036854775808 ≤ r.n; omega, hln.n1⟩)
  rw [hp] at this
  exact this
theorem par_zero {l : List UInt8} {s : Int} {w w' : World} (h : parseF l = (zeroO, s)) (hb : Below w.heap.size w w') : PaR (parseF l) w (.returned (.tuple #[opV zeroO (.slice none 0 0) (.slice none 0 0), .int .i64 s])) w' := by
  rw [h]
  exact ⟨_, _, rfl, RowC.nil _ _ _, RowC.nil _ _ _, hb⟩
theorem slice_fromN (bb bo n c m : Nat) (h1 : m ≤ n) (h2 : n ≤ c) : ∃ o2, (0 < n - m → o2 = bo + m) ∧ ∀ W, (Instr.slice 24 (.slice (some ⟨bb, bo, none⟩) n c) (some (.int .i64 (m : Int))) none none).run Tryz.prog W = .ok (.slice (some ⟨bb, o2, none⟩) (n - m) (c - m)) W := by
  by_cases he : c = m
  · refine ⟨bo, fun h => by omega, fun W => ?_⟩
    go_simp
    try (intro h; have := h (by omega); omega)
  · refine ⟨bo + m, fun h => rfl, fun W => ?_⟩
    go_simp
    try (intro h; have := h (by omega); omega)
theorem conv_take {W : World} {bb bo c n : Nat} {l : List UInt8} (h : ∀ j u, (bcells l)[j]? = some u → W.cell? ⟨bb, bo + j, none⟩ = some u) (hn : n ≤ l.length) : (convert 24 9 (.slice (some ⟨bb, bo, none⟩) n c)).run Tryz.prog W = .ok (.string (mkB (l.take n))) W := by
  have hdl : (l.take n).length = n := by rw [List.length_take]; omega
  have h1 := run_convert_bytes_back (P := Tryz.prog) W 24 9 5 ⟨bb, bo, none⟩ c (l.take n) Tryz.underlying24 Tryz.underlying5 Tryz.underlying9 (fun j hj => by
    rw [Lib.add_plain]
    have hj2 : j < l.length := by rw [hdl] at hj; omega
    refine h j _ ?_
    rw [bcells_getElem?, List.getElem?_eq_getElem hj2]
    simp)
  rw [hdl] at h1
  exact h1
theorem take_cell {l : List UInt8} {k j : Nat} {u : Value} (h : (bcells (l.take k))[j]? = some u) : (bcells l)[j]? = some u := by
  rw [bcells_getElem?] at h ⊢
  rw [List.getElem?_take] at h
  split at h
  · exact h
  · cases h
def ParN (l : List UInt8) (n : Nat) (r : O) (len : ByteArray) (b : Bool) : Prop := ∃ k, k + 4 = n ∧ ParK l k r len b
theorem parN_1 {l : List UInt8} {n : Nat} {r : O} {len : ByteArray} (h : ParN l n r len false) : parseF l = (zeroO, 400) := by obtain ⟨k, rfl, h⟩ := h; exact par_1 h
theorem parN_2 {l : List UInt8} {n : Nat} {r : O} {len : ByteArray} {b : Bool} (h : ParN l n r len b) (hne : headB r len ≠ mkB (l.take n)) : parseF l = (zeroO, 400) := by obtain ⟨k, rfl, h⟩ := h; exact par_2 h hne
theorem parN_3 {l : List UInt8} {n : Nat} {r : O} {len : ByteArray} {b : Bool} (h : ParN l n r len b) (hd : takesD len = false) : parseF l = (zeroO, 400) := by obtain ⟨k, rfl, h⟩ := h; exact par_3 h hd
theorem parN_4 {l : List UInt8} {n : Nat} {r : O} {len : ByteArray} {b : Bool} (h : ParN l n r len b) (hv : 16777216 < valD (bl len)) (hno : ¬ ((r.kind = 3 ∨ r.kind = 8) ∧ chkB r = true)) : parseF l = (zeroO, 400) := by obtain ⟨k, rfl, h⟩ := h; exact par_4 h hv hno
theorem parN_5 {l : List UInt8} {n : Nat} {r : O} {len : ByteArray} {b : Bool} (h : ParN l n r len b) (hv : valD (bl len) ≤ 16777216) (hne : n + valD (bl len) ≠ l.length) : parseF l = (zeroO, 400) := by obtain ⟨k, rfl, h⟩ := h; exact par_5 h hv hne
theorem parN_6 {l : List UInt8} {n : Nat} {r : O} {len : ByteArray} {b : Bool} (h : ParN l n r len b) (hv : valD (bl len) ≤ 16777216) (hc : chkB (withDa r (l.drop n)) = false) : parseF l = (zeroO, 400) := by obtain ⟨k, rfl, h⟩ := h; exact par_6 h hv hc
theorem parN_413 {l : List UInt8} {n : Nat} {r : O} {len : ByteArray} {b : Bool} (h : ParN l n r len b) (hh : headB r len = mkB (l.take n)) (hda : r.da = []) (hln : LnO r) (hd : takesD len = true) (hv : 16777216 < valD (bl len)) (hk : r.kind = 3 ∨ r.kind = 8) (hc : chkB r = true) : parseF l = (zeroO, 413) := by obtain ⟨k, rfl, _⟩ := h; exact par_413 hh hda hln hd hv hk hc
theorem parN_200 {l : List UInt8} {n : Nat} {r : O} {len : ByteArray} {b : Bool} (h : ParN l n r len b) (hh : headB r len = mkB (l.take n)) (hln : LnO r) (hd : takesD len = true) (hl : n + valD (bl len) = l.length) (hc : chkB (withDa r (l.drop n)) = true) : parseF l = (withDa r (l.drop n), 200) := by obtain ⟨k, rfl, _⟩ := h; exact par_200 hh hln hd hl hc
/-- append([]byte{}, b...): what it makes. -/
theorem append_new {w0 W w6 : World} {v6 : Value} {d : List UInt8} {m : Nat} (hB : Below w0.heap.size w0 W) (hd : d.length = m) (hown : w6.ownsRow W.heap.size 5 1 v6 (0 + m) ([] ++ bcells d)) (hgr : (W.alloc (.cells #[] 5)).grownBy w6 (Value.slice (some ⟨W.heap.size, 0, none⟩) 0 0).ownBlock) :
    ∃ a c, v6 = .slice a m c ∧ RowZ W.heap.size w6 v6 (bcells d) ∧ Below W.heap.size W w6 ∧ Below w0.heap.size w0 w6 := by
  have h1 : w6.ownsRow W.heap.size 5 1 v6 m (bcells d) := own_eq hown (by omega) (List.nil_append _)
  obtain ⟨a, c, hv⟩ := (RowIn.own h1).form
  rw [bcells_len, hd] at hv
  have hbb : Below W.heap.size W w6 := ((Below.refl W.heap.size W).alloc (Nat.le_refl _) (.cells #[] 5)).grown hgr (by rw [World.size_alloc]; omega) (fun j hj => by
    have e : (Value.slice (some ⟨W.heap.size, 0, none⟩) 0 0).ownBlock = some W.heap.size := rfl
    rw [e] at hj
    have := Option.some.inj hj
    omega)
  refine ⟨a, c, hv, ⟨RowC.own h1, fun b o n cap he _ => ?_⟩, hbb, hB.trans (hbb.mono hB.size)⟩
  exact own_lt h1 b (by rw [he]; rfl)
end Go.Proofs.YtnlooggibopknaaGreatDoor
