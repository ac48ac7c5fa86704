/- The walk of the parser's upload at a list of parts. -/
import Derived.Test.YtnlooggibopknaaGreatDoorW20
namespace Go.Proofs.YtnlooggibopknaaGreatDoor
open Go.RowKit Go.Sort

theorem splitB_le (sep : ByteArray) : ∀ (k : Nat) (s t : ByteArray), t ∈ Lib.splitB sep 0 k s → t.size ≤ s.size
  | 0, s, t, h => by simp only [Lib.splitB, List.mem_singleton] at h; rw [h]; omega
  | k + 1, s, t, h => by
    unfold Lib.splitB at h
    split at h
    · simp only [List.mem_singleton] at h; rw [h]; omega
    · simp only [List.mem_cons] at h
      rcases h with h | h
      · rw [h, ByteArray.size_extract]; omega
      · have := splitB_le sep k _ t h
        rw [ByteArray.size_extract] at this
        omega
theorem parts_not_part {s : ByteArray} (h : hp s sParts = true) : hp s sPart = false := by
  unfold hp Lib.hasPrefix at *
  obtain ⟨t, ht⟩ := List.isPrefixOf_iff_prefix.1 h
  rw [← ht]
  rfl
theorem ints_snoc (ps : List Nat) (m : Nat) : icells (ints (ps ++ [m])) = icells (ints ps) ++ [.int .i64 (m : Int)] := by simp [icells, ints]
theorem take_map_snoc (L : List ByteArray) (k : Nat) (h : k < L.length) (ps : List Nat) (m : Nat) (hp : (L.take k).map (fun s => numF s.data.toList) = ps.map some) (hm : numF L[k].data.toList = some m) :
    (L.take (k + 1)).map (fun s => numF s.data.toList) = (ps ++ [m]).map some := by
  rw [List.take_succ_eq_append_getElem h, List.map_append, hp, List.map_append, List.map_singleton, List.map_singleton, hm]
theorem own_setCell_far {w : World} {B e s n : Nat} {v : Value} {xs : List Value} (h : w.ownsRow B e s v n xs) {p : Addr} {x : Value} (hp : v.ownBlock ≠ some p.block) : (w.setCell p x).ownsRow B e s v n xs := by
  refine ⟨h.1, h.2.imp id ?_⟩
  rintro ⟨g, cap, cur, rfl, h1, h2, h3⟩
  exact ⟨g, cap, cur, rfl, h1, (Below.heap_setCell w p x g (fun e => hp (by rw [← e]; rfl))).trans h2, h3⟩
def opPs (u : Nat) (ps : List Nat) : O := ⟨0, 9, ⟨#[]⟩, ⟨#[]⟩, ⟨#[]⟩, 0, u, ints ps, []⟩

set_option maxHeartbeats 4000000 in
set_option maxRecDepth 1000000 in
theorem upload_post (how s : ByteArray) (w0 w : World) (pb u : Nat) (hL : Lib0 w0) (hb : BelowX pb w0.heap.size w0 w) (hpb : 8 ≤ pb) (hs : s.size ≤ 1073741824) (hP : PIs w pb zeroO (.slice none 0 0) (.slice none 0 0))
    (hu : unhexL (upId s).data.toList = some u) (h16 : 16 < s.size) (h1 : hp (upRest s) sParts = true) (h2 : how = bPOST) : Calls Tryz.prog 103 #[.pointer (some ⟨pb, 0, none⟩), .string how, .string s] w (PrE (uploadF how s) w0 pb) := by
  obtain ⟨i0, hi0, hz0, hz1, hz2⟩ := info_parts info3
  have h3 := parts_not_part h1
  have HF : Hid (uploadF how s = (numsF (spl (tp (upRest s) sParts) sComma)).map (opPs u)) := by
    unfold Hid
    rw [uploadF_some hu]
    unfold uploadU
    rw [if_neg (by rintro ⟨h, _⟩; rw [h3] at h; cases h), if_pos ⟨h1, h2⟩]
    rfl
  have he : upId s = s.extract 0 16 := by unfold upId; rw [if_pos h16]
  have he2 : upRest s = s.extract 16 s.size := by unfold upRest; rw [if_pos h16]
  have HU : Hid (∀ n, Calls Tryz.prog 83 #[.string (s.extract 0 16)] (w.drewN n) _) := fun n => he ▸ un_yes (upId_size s hs) (hL.belowX hpb (hb.drewN n)) hu
  rw [he2] at h1 h3 HF
  have hq1 : (how.toList == [80, 85, 84]) = false := by rw [h2, ByteArray.toList_eq]; rfl
  have hq2 : (how.toList == [80, 79, 83, 84]) = true := by rw [h2, ByteArray.toList_eq]; rfl
  clear h2
  have hi : (16 : Int) < (s.size : Int) := by omega
  have hi2 : (16 : Int) ≤ (s.size : Int) := by omega
  have hi3 : 16 ≤ s.size := by omega
  have HB := Lib.hid hb
  have HP := Lib.hid hP
  have hlt := hP.lt
  have hp1 : hp (s.extract 16 s.size) ⟨#[38, 112, 97, 114, 116, 61]⟩ = false := h3
  have hp2 : hp (s.extract 16 s.size) ⟨#[38, 112, 97, 114, 116, 115, 61]⟩ = true := h1
  clear he he2 hu hb hP h1 h3
  go_enter Tryz.func103, Tryz.ntmps103
  go_upto_region 2 with fail
  go_quiet (fail)
  go_wp2_with (go_at_call 83; refine (HU.out _).mono ?_; rintro e w1 ⟨rfl, hb1⟩)
  have hP1 : PIs w1 pb zeroO (.slice none 0 0) (.slice none 0 0) := PIs.below (w := w.drewN nq) HP.out hb1 hlt
  have hB1 : BelowX pb w0.heap.size w0 w1 := (HB.out.drewN nq).trans (hb1.mono HB.out.size)
  have c6 := hP1.cell 6 _ rfl
  have f6 := hP1.fz 6
  have HP1 := Lib.hid hP1
  have HB1 := Lib.hid hB1
  clear hb1 hP1 hB1
  go_wp2_with fail
  refine (must_yes _).mono ?_; rintro e w' ⟨rfl, rfl⟩
  go_wp2_with fail
  have hP2 : PIs (w1.setCell ⟨pb, 6, none⟩ (.int .u64 u)) pb ⟨0, 0, ⟨#[]⟩, ⟨#[]⟩, ⟨#[]⟩, 0, u, [], []⟩ (.slice none 0 0) (.slice none 0 0) := HP1.out.set 6 _ rfl
  have hB2 : BelowX pb w0.heap.size w0 (w1.setCell ⟨pb, 6, none⟩ (.int .u64 u)) := HB1.out.setP _ _
  generalize w1.setCell ⟨pb, 6, none⟩ (.int .u64 (u : Int)) = w2 at *
  clear c6 f6 HP1 HB1
  have c1 := hP2.cell 1 _ rfl
  have f1 := hP2.fz 1
  refine (cutPrefix_any _ _ _).mono ?_; rintro e w' ⟨rfl, rfl⟩
  go_wp2_with (go_at_call 82; refine (cutPrefix_any _ _ _).mono ?_; rintro e w' ⟨rfl, rfl⟩)
  have hP3 : PIs (w2.setCell ⟨pb, 1, none⟩ (.int .i64 9)) pb (opPs u []) (.slice none 0 0) (.slice none 0 0) := hP2.set 1 _ rfl
  have hB3 : BelowX pb w0.heap.size w0 (w2.setCell ⟨pb, 1, none⟩ (.int .i64 9)) := hB2.setP _ _
  generalize w2.setCell ⟨pb, 1, none⟩ (.int .i64 9) = w3 at *
  clear c1 f1 hP2 hB2
  obtain ⟨mx, hmx⟩ := (hL.belowX hpb hB3).maxlen
  have hts : (tp (s.extract 16 s.size) ⟨#[38, 112, 97, 114, 116, 115, 61]⟩).size ≤ 1073741824 := by show (List.toArray _).size ≤ _; rw [List.size_toArray]; exact tp_len _ _ (by rw [ByteArray.size_extract]; omega)
  have HF' : Hid (uploadF how s = (numsF (spl (tp (s.extract 16 s.size) ⟨#[38, 112, 97, 114, 116, 115, 61]⟩) ⟨#[44]⟩)).map (opPs u)) := HF.out
  generalize hT : tp (s.extract 16 s.size) ⟨#[38, 112, 97, 114, 116, 115, 61]⟩ = T at *
  have hS := Tryz.strings_Split T ⟨#[44]⟩ mx w3 (by omega) hmx (by decide)
  refine hS.mono ?_
  rintro e w4 ⟨rfl, rfl⟩
  have hLL : (spl T ⟨#[44]⟩).length = Lib.countB T ⟨#[44]⟩ + 1 := spl_len T ⟨#[44]⟩ (by decide)
  have hSP : Lib.splitB ⟨#[44]⟩ 0 (Lib.countB T ⟨#[44]⟩) T = spl T ⟨#[44]⟩ := rfl
  have hcb := Lib.countB_le ⟨#[44]⟩ (by decide) T.size T (Nat.le_refl _)
  have HE : Hid (∀ t ∈ spl T ⟨#[44]⟩, t.size ≤ 1073741824) := fun t ht => Nat.le_trans (splitB_le _ _ _ _ ht) hts
  rw [hSP]
  generalize spl T ⟨#[44]⟩ = L at *
  generalize hN : Lib.countB T ⟨#[44]⟩ + 1 = N at *
  clear hS hSP hT HU HF
  have hN1 : N ≤ 1073741825 := by omega
  have hsb := hP3.lt
  have hlv : (w3.alloc (.cells (L.map Value.string).toArray 9)).heap[w3.heap.size]? = some (.cells (L.map Value.string).toArray 9 (0, 0)) := heap_alloc_new w3 _
  have hPA : PIs (w3.alloc (.cells (L.map Value.string).toArray 9)) pb (opPs u []) (.slice none 0 0) (.slice none 0 0) := PIs.below hP3 ((Below.refl w3.heap.size w3).alloc (Nat.le_refl _) _) hsb
  have hBA : BelowX pb w0.heap.size w0 (w3.alloc (.cells (L.map Value.string).toArray 9)) := hB3.alloc hB3.size _
  have hsA : (w3.alloc (.cells (L.map Value.string).toArray 9)).heap.size = w3.heap.size + 1 := World.size_alloc _ _
  have hb3s := hB3.size
  generalize w3.alloc (.cells (L.map Value.string).toArray 9) = wA at *
  generalize hsbq : w3.heap.size = sb at *
  clear hP3 hB3 hmx HB HP hsbq
  go_wp2
  go_loopw [80] (fun i wr => ∃ (k : Nat) (ps : List Nat) (v : Value), k ≤ N ∧ i = .int .i64 k ∧ ps.length = k ∧ (L.take k).map (fun s => numF s.data.toList) = ps.map some ∧ PIs wr pb (opPs u ps) v (.slice none 0 0) ∧ wr.ownsRow (sb + 1) 3 1 v k (icells (ints ps)) ∧ BelowX pb w0.heap.size w0 wr ∧ wr.heap[sb]? = some (.cells (L.map Value.string).toArray 9 (0, 0)) ∧ sb < wr.heap.size) (fun i _ => N - (intOf i).toNat)
  case atStart => exact ⟨0, [], .slice none 0 0, Nat.zero_le _, rfl, rfl, by simp, hPA, World.ownsRow_nil _ _ _ _, hBA, hlv, by omega⟩
  case round =>
    clear hPA hBA hlv hsA
    obtain ⟨k, ps, v, hk, rfl, hpl, hmap, hPr, hown, hBr, hsbr, hsz⟩ := hrel
    by_cases hlt2 : k < N
    · have hck : wr.cell? ⟨sb, k, none⟩ = some (.string (L[k]'(by omega))) := by
        rw [cell_of_row wr sb k _ _ _ hsbr]
        simp [List.getElem?_eq_getElem (show k < L.length by omega)]
      have hNu := Lib.hid (number_any (L[k]'(by omega)) wr (HE.out _ (List.getElem_mem _)) (hL.belowX hpb hBr))
      have HM := Lib.hid hmap
      have HN0 := Lib.hid (numsF_none (l := L) (k := k) (by omega))
      have HTS := Lib.hid (fun m => take_map_snoc L k (by omega) ps m hmap)
      have HPr := Lib.hid hPr
      clear hmap
      go_wp2_with fail
      refine hNu.out.mono ?_
      rintro e w4 ⟨n, rfl, _, hn, hb4⟩
      have hP4 := hPr.below hb4 hPr.lt
      have hB4 : BelowX pb w0.heap.size w0 w4 := hBr.trans (hb4.mono hBr.size)
      have hs4 := hb4.size
      have hsb4 : w4.heap[sb]? = some (.cells (L.map Value.string).toArray 9 (0, 0)) := (hb4.block sb hsz).trans hsbr
      have hown4 := own_below hown hb4
      clear hNu
      cases hx : numF (L[k]'(by omega)).data.toList with
      | none =>
        have HF2 : Hid (uploadF how s = none) := by rw [HF'.out, HN0.out hx]; rfl
        simp only [Option.isSome_none]
        clear hx HN0 HTS
        go_wp2_with (go_at_call 47; refine (must_no _).mono ?_; rintro e w' ⟨rfl, rfl⟩)
        exact ⟨rfl, hB4, .inl ⟨HF2.out, rfl⟩⟩
      | some m =>
        obtain rfl := hn m hx
        have HT2 := Lib.hid (HTS.out m hx)
        simp only [Option.isSome_some]
        have c7 : (w4.alloc (.cells #[.int .i64 (m : Int)] 3)).cell? ⟨pb, 7, none⟩ = some v := (PIs.below hP4 ((Below.refl w4.heap.size w4).alloc (Nat.le_refl _) _) hP4.lt).cell 7 _ rfl
        have c7' := hP4.cell 7 _ rfl
        have hl1 : k + 1 ≤ maxLen := by unfold maxLen; omega
        have hl3 : (k + 1) * 8 ≤ 140737488355328 := by omega
        clear hx HN0 HTS hn hb4
        go_wp2_with fail
        refine (must_yes _).mono ?_; rintro e w' ⟨rfl, rfl⟩
        have hbase : sb + 1 ≤ (w4.alloc (.cells #[.int .i64 (m : Int)] 3)).heap.size := by rw [World.size_alloc]; omega
        have hown4' := hown4.alloc (.cells #[.int .i64 (m : Int)] 3)
        have hPA4 : PIs (w4.alloc (.cells #[.int .i64 (m : Int)] 3)) pb (opPs u ps) v (.slice none 0 0) := PIs.below hP4 ((Below.refl w4.heap.size w4).alloc (Nat.le_refl _) _) hP4.lt
        have hSA4 : (w4.alloc (.cells #[.int .i64 (m : Int)] 3)).heap[sb]? = some (.cells (L.map Value.string).toArray 9 (0, 0)) := (((Below.refl w4.heap.size w4).alloc (Nat.le_refl _) (.cells #[.int .i64 (m : Int)] 3)).block sb (by omega)).trans hsb4
        have hBA4 : BelowX pb w0.heap.size w0 (w4.alloc (.cells #[.int .i64 (m : Int)] 3)) := hB4.alloc (by omega) _
        have HHA := Lib.hid hPA4
        have HSA := Lib.hid hSA4
        have HBA := Lib.hid hBA4
        have HHB := Lib.hid hbase
        clear hPA4 hSA4 hBA4 c7
        go_wp2_with (at_builtin; refine wpList_append_lies _ rfl _ _ 23 rfl (sb + 1) 3 i0 (.int .i64 0) 1 8 Tryz.underlying23 hi0 hz0 hz1 hz2 rfl (by decide) v k (icells (ints ps)) rfl hown4' ⟨w4.heap.size, 0, none⟩ 1 1 [.int .i64 (m : Int)] rfl rfl (news_new _ _ _) (by intro u hu; simp at hu; subst hu; rfl) (by decide) hl1 hl3 hbase _ rfl ?_; intro gg cap5 w5 hown5 hgr5 _ hlt5; have hP5 : PIs w5 pb (opPs u ps) v (.slice none 0 0) := (hgr5.block pb (by omega) (fun hj => by have := own_lt hown4' _ hj.symm; omega)).trans HHA.out; have c7 := hP5.cell 7 _ rfl; have f7 := hP5.fz 7; have HP5 := Lib.hid hP5; have HO5 := Lib.hid hown5; have HG5 := Lib.hid hgr5; have HO4 := Lib.hid hown4'; clear hP5 hown5 hgr5 hown4' hbase hown4 hP4 hB4 hsb4 hPr hown hBr hsbr hck)
        go_roundw
        case rel =>
          have hown5 := HO5.out
          have hgr5 := HG5.out
          have hown4' := HO4.out
          have hS5 : w5.heap[sb]? = some (.cells (L.map Value.string).toArray 9 (0, 0)) := (hgr5.block sb (by have := HHB.out; omega) (fun hj => by have := own_lt hown4' _ hj.symm; omega)).trans HSA.out
          have hB5 : BelowX pb w0.heap.size w0 w5 := HBA.out.grown hgr5 (by have := HHB.out; omega) (fun j hj => by have := own_lt hown4' j hj; omega)
          have hz5 := hgr5.size
          refine ⟨k + 1, ps ++ [m], .slice (some ⟨gg, 0, none⟩) (k + 1) cap5, by omega, by go_num, by simp [hpl], HT2.out, HP5.out.set 7 _ rfl, ?_, hB5.setP _ _, ?_, ?_⟩
          · rw [ints_snoc]
            exact own_setCell_far hown5 (fun hj => by have := own_lt hown5 _ hj; have : sb + 1 ≤ pb := this; omega)
          · rw [Below.heap_setCell _ _ _ _ (by show sb ≠ pb; omega)]; exact hS5
          · have : (w5.setCell ⟨pb, 7, none⟩ (.slice (some ⟨gg, 0, none⟩) (k + 1) cap5)).heap.size = w5.heap.size := by simp [World.setCell]
            have := HHB.out
            omega
        case measure => simp [intOf]; omega
    · obtain rfl : k = N := by omega
      have HF2 : Hid (uploadF how s = some (opPs u ps)) := by
        rw [HF'.out, numsF_iff.2 (by rw [← hmap, List.take_of_length_le (by omega)])]; rfl
      go_wp2
      go_end0
      exact ⟨hBr, .inr ⟨opPs u ps, v, HF2.out, rfl, hPr, RowX.own hown (by omega)⟩⟩
end Go.Proofs.YtnlooggibopknaaGreatDoor
