/- The walk of the reference's numbers. -/
import Derived.Test.YtnlooggibopknaaGreatDoorPf
import Derived.Lib.AppendStr
import Derived.Deep.DeepCutAuto
namespace Go.Proofs.YtnlooggibopknaaGreatDoor
open Go.RowKit

theorem join_snoc (sep x : List UInt8) : ∀ xs : List (List UInt8), xs ≠ [] → Lib.join (xs ++ [x]) sep = Lib.join xs sep ++ (sep ++ x)
  | [], h => absurd rfl h
  | [y], _ => by
    have e : Lib.join (y :: x :: []) sep = y ++ sep ++ Lib.join [x] sep := by simp [Lib.join, List.intercalate, List.intersperse]
    rw [show [y] ++ [x] = y :: x :: [] from rfl, e, Lib.join_one, Lib.join_one, List.append_assoc]
  | y :: z :: r, _ => by
    have ih := join_snoc sep x (z :: r) (by simp)
    have e : ∀ t, Lib.join (y :: z :: t) sep = y ++ sep ++ Lib.join (z :: t) sep := fun t => by simp [Lib.join, List.intercalate, List.intersperse]
    rw [show y :: z :: r ++ [x] = y :: z :: (r ++ [x]) from rfl, e, e, show z :: (r ++ [x]) = z :: r ++ [x] from rfl, ih]
    simp only [List.append_assoc]
def comL (ps : List Int) (k : Nat) : List UInt8 := Lib.join ((ps.take k).map Lib.itoa) [44]
theorem comL_step (ps : List Int) (k : Nat) (h : k < ps.length) (hk : 0 < k) : comL ps (k + 1) = comL ps k ++ ([44] ++ Lib.itoa (atI ps k)) := by
  unfold comL
  rw [List.take_succ_eq_append_getElem h, List.map_append]
  have e : atI ps k = ps[k] := by simp [atI, h]
  rw [e]
  refine join_snoc _ _ _ ?_
  intro e
  have := congrArg List.length e
  rw [List.length_map, List.length_take, List.length_nil] at this
  omega
theorem comL_first (ps : List Int) (h : 0 < ps.length) : comL ps 1 = Lib.itoa (atI ps 0) := by
  unfold comL
  rw [List.take_succ_eq_append_getElem h]
  have e : atI ps 0 = ps[0] := by simp [atI, h]
  rw [e]
  simp [Lib.join_one]
theorem comL_zero (ps : List Int) : comL ps 0 = [] := by simp [comL, Lib.join_nil]
theorem comL_len (ps : List Int) (k : Nat) (h : ps.length ≤ 1000000) (he : ∀ p ∈ ps, 0 ≤ p ∧ p ≤ 9223372036854775807) : (comL ps k).length ≤ 20000000 := by
  have := join_len [44] ((ps.take k).map Lib.itoa) 19 (fun x hx => by
    obtain ⟨p, hp, rfl⟩ := List.mem_map.1 hx
    have h2 := he p (List.mem_of_mem_take hp)
    have e : Lib.itoa p = Lib.decDigits p.toNat := by unfold Lib.itoa; rw [if_neg (by omega)]
    rw [e]
    exact decDigits_len 18 _ (by omega))
  rw [List.length_map, List.length_take] at this
  unfold comL
  have e : (19 + ([44] : List UInt8).length) = 20 := rfl
  rw [e] at this
  omega
theorem strCells_b (s : ByteArray) : Lib.strCells s = bcells (bl s) := by
  unfold Lib.strCells bcells
  rfl
theorem bl_itoa (n : Int) : bl (itoaB n) = Lib.itoa n := mkB_data _

set_option maxHeartbeats 2000000 in
set_option maxRecDepth 100000 in
theorem numbers_row (ps : List Int) (b of c : Nat) (w : World) (hbw : b < w.heap.size) (hc : ∀ j u, (icells ps)[j]? = some u → w.cell? ⟨b, of + j, none⟩ = some u) (hl : ps.length ≤ 1000000) (he : ∀ p ∈ ps, 0 ≤ p ∧ p ≤ 9223372036854775807) :
    Calls Tryz.prog 98 #[.slice (some ⟨b, of, none⟩) ps.length c] w fun e w' => e = .returned (.string (commaB ps)) ∧ Below w.heap.size w w' := by
  obtain ⟨i0, hi, hz0, hz1, hz2⟩ := info_parts info5
  have HE : Hid (∀ k, k < ps.length → 0 ≤ atI ps k ∧ atI ps k ≤ 9223372036854775807) := fun k h => by
    have e : atI ps k = ps[k] := by simp [atI, h]
    rw [e]; exact he _ (List.getElem_mem h)
  have HN := Lib.hid (fun k => comL_len ps k hl he)
  have HC : Hid (∀ wr, Below w.heap.size w wr → ∀ k (h : k < ps.length), wr.cell? ⟨b, of + k, none⟩ = some (.int .i64 (atI ps k))) := fun wr hb k h => ((bcell hb).1 b (of + k) hbw).trans (hc k _ (by simp [icells, atI, List.getD, h]))
  clear hc he
  go_enter Tryz.func98, Tryz.ntmps98
  go_wp2
  go_loopw [3, 4] (fun v i wr => ∃ k : Nat, k ≤ ps.length ∧ i = .int .i64 k ∧ wr.ownsRow w.heap.size 5 1 v (comL ps k).length (bcells (comL ps k)) ∧ Below w.heap.size w wr) (fun _ i _ => ps.length - (intOf i).toNat)
  case atStart => exact ⟨0, Nat.zero_le _, rfl, by rw [comL_zero]; exact World.ownsRow_nil _ _ _ _, Below.refl _ _⟩
  case round =>
    obtain ⟨k, hk, rfl, hown, hb⟩ := hrel
    have hbs := hb.size
    by_cases hlt : k < ps.length
    · have hck := HC.out wr hb k hlt
      obtain ⟨hE1, hE2⟩ := HE.out k hlt
      have hn := HN.out k
      obtain ⟨x, hx⟩ : ∃ x : Nat, atI ps k = x := ⟨(atI ps k).toNat, by omega⟩
      have hzx : (decB x).size ≤ 19 := by show (List.toArray _).size ≤ 19; rw [List.size_toArray]; exact decDigits_len 18 _ (by omega)
      have HX : Hid (Lib.itoa (atI ps k) = bl (decB x)) := by unfold Hid; rw [hx, ← bl_itoa, itoa_dec]
      rw [hx] at hck
      have hD : ∀ W, Calls Tryz.prog 38 #[.int .i64 (x : Int)] W fun e w' => e = .returned (.string (decB x)) ∧ Below W.heap.size W w' := fun W => decimal_any x W (by omega)
      have HD := Lib.hid hD
      have HXI := Lib.hid hx
      clear hx hD hE1 hE2
      by_cases hk0 : 0 < k
      · have HS := Lib.hid (comL_step ps k hlt hk0)
        have HCK : Hid (∀ W, Below w.heap.size w W → W.cell? ⟨b, of + k, none⟩ = some (.int .i64 (x : Int))) := fun W hbW => (HC.out W hbW k hlt).trans (by rw [HXI.out])
        clear hck
        go_upto_region 7 with (at_builtin; refine wpList_append_own _ rfl _ _ 24 rfl w.heap.size 5 i0 (.int .u8 0) 1 1 Tryz.underlying24 hi hz0 hz1 hz2 rfl (by decide) _ _ _ rfl (hown.alloc _) ⟨wr.heap.size, 0, none⟩ 1 1 [.int .u8 44] rfl rfl (news_new _ _ _) (by intro u hu; simp at hu; subst hu; rfl) (by unfold maxLen; omega) (by omega) (by simp; omega) ?_; intro v1 w1 hown1 hgr1 _)
        have hb1 : Below w.heap.size w w1 := hb.trans (((Below.refl _ _).alloc hb.size _).grown hgr1 (by simp; omega) (own_lt hown))
        have hck1 := HCK.out w1 hb1
        have hbs1 := hb1.size
        clear hgr1
        go_wp2_with fail
        refine (HD.out _).mono ?_
        rintro e w2 ⟨rfl, hb2⟩
        have hown2 := own_below hown1 hb2
        have hbs2 := hb2.size
        clear hck1
        go_wp2_with (at_builtin; refine Lib.wpList_append_own_string _ rfl _ _ 24 9 rfl w.heap.size 5 i0 Tryz.underlying24 Tryz.underlying9 hi hz0 hz1 hz2 _ _ _ rfl hown2 (decB x) rfl (by unfold maxLen; omega) (by omega) (by omega) ?_; intro v3 w3 hown3 hgr3 _)
        go_roundw
        case rel =>
          refine ⟨k + 1, by omega, by go_num, own_eq hown3 ?_ ?_, (hb1.trans (hb2.mono hb1.size)).grown hgr3 (by omega) (own_lt hown2)⟩
          · rw [HS.out, HX.out]; simp; omega
          · rw [HS.out, HX.out, bcells_app, bcells_app, strCells_b, List.append_assoc]; rfl
        case measure => simp [intOf]; omega
      · obtain rfl : k = 0 := by omega
        have HS := Lib.hid (comL_first ps hlt)
        rw [Nat.add_zero] at hck
        go_wp2_with fail
        refine (HD.out _).mono ?_
        rintro e w2 ⟨rfl, hb2⟩
        have hown2 := own_below hown hb2
        have hbs2 := hb2.size
        clear hck
        go_wp2_with (at_builtin; refine Lib.wpList_append_own_string _ rfl _ _ 24 9 rfl w.heap.size 5 i0 Tryz.underlying24 Tryz.underlying9 hi hz0 hz1 hz2 _ _ _ rfl hown2 (decB x) rfl (by unfold maxLen; omega) (by omega) (by omega) ?_; intro v3 w3 hown3 hgr3 _)
        go_roundw
        case rel =>
          refine ⟨1, by omega, by go_num, own_eq hown3 ?_ ?_, (hb.trans (hb2.mono hb.size)).grown hgr3 (by omega) (own_lt hown2)⟩
          · rw [HS.out, HX.out, comL_zero]; simp
          · rw [HS.out, HX.out, comL_zero, strCells_b]; rfl
        case measure => simp [intOf]; omega
    · obtain rfl : k = ps.length := by omega
      have hcv := convert_own hown
      have HT : Hid (comL ps ps.length = Lib.join (ps.map Lib.itoa) [44]) := by unfold Hid comL; rw [List.take_length]
      go_wp2
      go_ret
      exact ⟨ret_str (by rw [HT.out]; rfl), hb⟩
end Go.Proofs.YtnlooggibopknaaGreatDoor
