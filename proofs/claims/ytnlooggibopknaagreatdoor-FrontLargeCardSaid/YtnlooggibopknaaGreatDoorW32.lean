/- The walk of slices.Clone at bytes; bytes.Index at the end of a head. -/
import Derived.Test.YtnlooggibopknaaGreatDoorW30
import Derived.Test.YtnlooggibopknaaGreatDoorPf
namespace Go.Proofs.YtnlooggibopknaaGreatDoor
open Go.RowKit Go.Sort

def CloR (l : List UInt8) (w : World) (e : Ending) (w' : World) : Prop := ∃ v, e = .returned v ∧ w'.ownsRow w.heap.size 5 1 v l.length (bcells l) ∧ Below w.heap.size w w'
set_option maxHeartbeats 1000000 in
set_option maxRecDepth 100000 in
theorem clone_any (b o c : Nat) (l : List UInt8) (w : World) (hc : ∀ j u, (bcells l)[j]? = some u → w.cell? ⟨b, o + j, none⟩ = some u) (hl : l.length ≤ 1073741824) :
    Calls Tryz.prog 49 #[.slice (some ⟨b, o, none⟩) l.length c] w (CloR l w) := by
  obtain ⟨i0, hi, hz0, hz1, hz2⟩ := info_parts info5
  have hq := Lib.run_eql_slice_nil (P := Tryz.prog) w 24 5 (some ⟨b, o, none⟩) l.length c 0 0 Tryz.underlying24
  have HC : Hid (∀ j u, (bcells l)[j]? = some u → (w.alloc (.cells #[] 5)).cell? ((⟨b, o, none⟩ : Addr).add j) = some u) := fun j u hj => by
    rw [Lib.add_plain]
    have h1 := hc j u hj
    exact ((bcell ((Below.refl w.heap.size w).alloc (Nat.le_refl _) _)).1 b (o + j) (World.block_lt_of_cell? w _ h1)).trans h1
  have HO : Hid ((w.alloc (.cells #[] 5)).ownsRow w.heap.size 5 1 (.slice (some ⟨w.heap.size, 0, none⟩) 0 0) 0 []) := ⟨rfl, .inr ⟨w.heap.size, 0, #[], rfl, Nat.le_refl _, heap_alloc_new w _, by omega, by unfold maxLen; omega, rfl, rfl⟩⟩
  clear hc
  go_enter Tryz.func49, Tryz.ntmps49
  go_wp2_with (at_builtin; refine wpList_append_own _ rfl _ _ 24 rfl w.heap.size 5 i0 (.int .u8 0) 1 1 Tryz.underlying24 hi hz0 hz1 hz2 rfl (by decide) _ _ _ rfl HO.out ⟨b, o, none⟩ l.length c (bcells l) rfl (by rw [bcells_len]; omega) HC.out (bcells_one l) (by unfold maxLen; omega) (by omega) (by simp) ?_; intro v1 w1 hown1 hgr1 _)
  have HO1 : Hid (w1.ownsRow w.heap.size 5 1 v1 l.length (bcells l)) := own_eq hown1 (by omega) (List.nil_append _)
  have HB : Hid (Below w.heap.size w w1) := by
    have h0 := own_lt HO.out
    refine ((Below.refl w.heap.size w).alloc (Nat.le_refl _) (.cells #[] 5)).trans ?_
    exact ⟨hgr1.os, hgr1.tape, hgr1.output, hgr1.size, fun k hk => hgr1.block k (by rw [World.size_alloc]; omega) (fun e => by have := h0 k e.symm; omega)⟩
  clear hown1 hgr1
  go_wp2
  go_ret
  exact ⟨v1, rfl, HO1.out, HB.out⟩

theorem bytesOf_bnums (l : List UInt8) : Lib.bytesOf (bnums l) = l := by
  unfold Lib.bytesOf bnums
  rw [List.map_map]
  exact List.map_id'' (fun c => by simp) l
/-- bytes.Index for the end of a head. -/
theorem index_any (b o c : Nat) (b2 : Nat) (l : List UInt8) (w : World) (hc : ∀ j u, (bcells l)[j]? = some u → w.cell? ⟨b, o + j, none⟩ = some u) (hcap : l.length ≤ c) (hl : l.length ≤ 1073741824)
    (h2 : ∀ j u, (bcells CC)[j]? = some u → w.cell? ⟨b2, j, none⟩ = some u) (hL : Lib0 w) :
    Calls Tryz.prog 45 #[.slice (some ⟨b, o, none⟩) l.length c, .slice (some ⟨b2, 0, none⟩) 4 4] w fun e w' => e = .returned (.int .i64 (Lib.index l CC)) ∧ ∃ q, w' = w.drewN q := by
  obtain ⟨m, hm⟩ := hL.maxlen
  have hr : ∀ (l : List UInt8) (x : Int), x ∈ bnums l → 0 ≤ x ∧ x < 256 := fun l x hx => by
    unfold bnums at hx
    obtain ⟨c, _, rfl⟩ := List.mem_map.1 hx
    have := c.toNat_lt
    omega
  have h := Tryz.bytes_Index_at ⟨b, o, none⟩ ⟨b2, 0, none⟩ l.length c 4 4 (bnums l) (bnums CC) m w (by simp [bnums]) (by simp [bnums, CC]) (hr l) (hr CC) (fun i hi => ?_) (fun i hi => ?_) hcap (by omega) (by decide) hm
  · rw [bytesOf_bnums, bytesOf_bnums] at h
    exact h
  · rw [Lib.add_plain]
    refine hc i _ ?_
    rw [bcells_getElem?, List.getElem?_eq_getElem hi, bnums_getD l i hi]
    rfl
  · rw [Lib.add_plain, Nat.zero_add]
    refine h2 i _ ?_
    have hi' : i < CC.length := hi
    rw [bcells_getElem?, List.getElem?_eq_getElem hi', bnums_getD CC i hi']
    rfl
end Go.Proofs.YtnlooggibopknaaGreatDoor
