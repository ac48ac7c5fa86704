/- The walk of the reference's listed: numbers with commas between. -/
import Derived.Test.YtnlooggibopknaaGreatDoorRe
import Derived.Laws.AppendOwn
namespace Go.Proofs.YtnlooggibopknaaGreatDoor
open Go.RowKit Go.Sort

/-- Numbers as an op's parts have them. -/
def PartsOk (ps : List Int) : Prop := ∀ p ∈ ps, 0 ≤ p ∧ p ≤ 1099511627776
theorem comma_more {p : Int} {r : List Int} (hr : r ≠ []) : commaB (p :: r) = itoaB p ++ (sComma ++ commaB r) := by
  apply bl_inj
  rw [bl_app, bl_app, bComma, show bl (commaB r) = Lib.join (r.map Lib.itoa) [44] from mkB_data _, show bl (commaB (p :: r)) = Lib.join ((p :: r).map Lib.itoa) [44] from mkB_data _, show bl (itoaB p) = Lib.itoa p from mkB_data _]
  cases r with
  | nil => exact absurd rfl hr
  | cons q r' => simp [Lib.join, List.intercalate]
theorem comma_one (p : Int) : commaB [p] = itoaB p := by
  apply bl_inj
  rw [show bl (commaB [p]) = Lib.join ([p].map Lib.itoa) [44] from mkB_data _, show bl (itoaB p) = Lib.itoa p from mkB_data _]
  simp [Lib.join_one]
theorem itoa_no {p : Int} (h : 0 ≤ p) : (44 : UInt8) ∉ bl (itoaB p) := by rw [itoaB_nat p h]; exact dec_no (by decide)
theorem cut_more {p : Int} {r : List Int} (hr : r ≠ []) (h : 0 ≤ p) : cutO (commaB (p :: r)) sComma = some (itoaB p, commaB r) := by
  rw [comma_more hr]; exact cutO_at bComma _ _ (itoa_no h)
theorem cut_one {p : Int} (h : 0 ≤ p) : cutO (commaB [p]) sComma = none := by
  rw [comma_one]; exact cutO_not bComma _ (itoa_no h)
theorem small_itoa {p : Int} (h0 : 0 ≤ p) (h1 : p ≤ 1099511627776) : smallB (itoaB p) = true ∧ (valD (bl (itoaB p)) : Int) = p := by
  rw [itoaB_nat p h0, bl_dec, valD_dec]
  refine ⟨?_, Int.toNat_of_nonneg h0⟩
  unfold smallB
  rw [takesD_iff.2 ⟨p.toNat, by omega, rfl⟩, bl_dec, valD_dec, decide_eq_true (by omega)]
  rfl
/-- Where listed stands, if its text is a row of numbers as it is printed. -/
def LisG (s cur : ByteArray) (l : List Int) : Prop := ∀ ps : List Int, ps ≠ [] → ps.length ≤ 20000 → PartsOk ps → s = commaB ps → ∃ r, r ≠ [] ∧ ps = l ++ r ∧ cur = commaB r
theorem lis_more {s cur a rest : ByteArray} {l : List Int} (h : LisG s cur l) (hc : cutO cur sComma = some (a, rest)) {m : Int} (hm : smallB a = true → m = (valD (bl a) : Int)) : LisG s rest (l ++ [m]) := fun ps h1 h2 h3 h4 => by
  obtain ⟨r, hr, he, hcur⟩ := h ps h1 h2 h3 h4
  cases r with
  | nil => exact absurd rfl hr
  | cons p r =>
    have hp := h3 p (by rw [he]; simp)
    cases r with
    | nil => rw [hcur, cut_one hp.1] at hc; cases hc
    | cons q r =>
      rw [hcur, cut_more (by simp) hp.1] at hc
      simp only [Option.some.injEq, Prod.mk.injEq] at hc
      obtain ⟨rfl, rfl⟩ := hc
      obtain ⟨hs1, hs2⟩ := small_itoa hp.1 hp.2
      refine ⟨q :: r, by simp, ?_, rfl⟩
      rw [he, hm hs1, hs2]
      simp
/-- A text that does not go on is no row of numbers. -/
theorem lis_bad {s cur a rest : ByteArray} {l : List Int} (h : LisG s cur l) (hc : cutO cur sComma = some (a, rest)) (hb : smallB a = false ∨ 20000 < l.length) {ps : List Int} (h1 : ps ≠ []) (h2 : ps.length ≤ 20000) (h3 : PartsOk ps) : s ≠ commaB ps := fun h4 => by
  obtain ⟨r, hr, he, hcur⟩ := h ps h1 h2 h3 h4
  cases r with
  | nil => exact absurd rfl hr
  | cons p r =>
    have hp := h3 p (by rw [he]; simp)
    rcases hb with hb | hb
    · cases r with
      | nil => rw [hcur, cut_one hp.1] at hc; cases hc
      | cons q r =>
        rw [hcur, cut_more (by simp) hp.1] at hc
        simp only [Option.some.injEq, Prod.mk.injEq] at hc
        obtain ⟨rfl, rfl⟩ := hc
        rw [(small_itoa hp.1 hp.2).1] at hb
        cases hb
    · have := congrArg List.length he
      simp only [List.length_append, List.length_cons] at this
      omega
theorem lis_badL {s cur : ByteArray} {l : List Int} (h : LisG s cur l) (hc : cutO cur sComma = none) (hb : smallB cur = false ∨ 20000 < l.length) {ps : List Int} (h1 : ps ≠ []) (h2 : ps.length ≤ 20000) (h3 : PartsOk ps) : s ≠ commaB ps := fun h4 => by
  obtain ⟨r, hr, he, hcur⟩ := h ps h1 h2 h3 h4
  cases r with
  | nil => exact absurd rfl hr
  | cons p r =>
    have hp := h3 p (by rw [he]; simp)
    rcases hb with hb | hb
    · cases r with
      | nil =>
        rw [hcur, comma_one, (small_itoa hp.1 hp.2).1] at hb
        cases hb
      | cons q r => rw [hcur, cut_more (by simp) hp.1] at hc; cases hc
    · have := congrArg List.length he
      simp only [List.length_append, List.length_cons] at this
      omega
theorem lis_last {s cur : ByteArray} {l : List Int} (h : LisG s cur l) (hc : cutO cur sComma = none) {m : Int} (hm : smallB cur = true → m = (valD (bl cur) : Int)) {ps : List Int} (h1 : ps ≠ []) (h2 : ps.length ≤ 20000) (h3 : PartsOk ps) (h4 : s = commaB ps) : ps = l ++ [m] := by
  obtain ⟨r, hr, he, hcur⟩ := h ps h1 h2 h3 h4
  cases r with
  | nil => exact absurd rfl hr
  | cons p r =>
    have hp := h3 p (by rw [he]; simp)
    cases r with
    | cons q r => rw [hcur, cut_more (by simp) hp.1] at hc; cases hc
    | nil =>
      obtain ⟨hs1, hs2⟩ := small_itoa hp.1 hp.2
      rw [comma_one] at hcur
      rw [hcur] at hm
      rw [he, hm hs1, hs2]
/-- How listed ends. -/
def LisR (s : ByteArray) (w : World) (e : Ending) (w' : World) : Prop :=
  ∃ (l : List Int) (v : Value) (b : Bool), e = .returned (.tuple #[v, .bool b]) ∧ w'.ownsRow w.heap.size 3 1 v l.length (icells l) ∧ l.length ≤ 20001 ∧ PartsOk l ∧ Below w.heap.size w w' ∧ ∀ ps : List Int, ps ≠ [] → ps.length ≤ 20000 → PartsOk ps → s = commaB ps → b = true ∧ l = ps
theorem lis_no {s : ByteArray} {w w' : World} (hb : Below w.heap.size w w') (h : ∀ ps : List Int, ps ≠ [] → ps.length ≤ 20000 → PartsOk ps → s ≠ commaB ps) : LisR s w (.returned (.tuple #[.slice none 0 0, .bool false])) w' :=
  ⟨[], .slice none 0 0, false, rfl, World.ownsRow_nil _ _ _ _, Nat.zero_le _, (fun p hp => by simp at hp), hb, fun ps h1 h2 h3 h4 => absurd h4 (h ps h1 h2 h3)⟩
theorem parts_snoc {l : List Int} {m : Int} {s : ByteArray} (h : PartsOk l) (hs : smallB s = true) (hm : smallB s = true → m = (valD (bl s) : Int)) : PartsOk (l ++ [m]) := fun p hp => by
  rcases List.mem_append.1 hp with h1 | h1
  · exact h p h1
  · rw [List.mem_singleton] at h1
    subst h1
    rw [hm hs]
    unfold smallB at hs
    rw [Bool.and_eq_true, decide_eq_true_eq] at hs
    omega
def szOf : Value → Nat
  | .string s => s.size
  | _ => 0

set_option maxHeartbeats 4000000 in
set_option maxRecDepth 100000 in
theorem listed_any (s : ByteArray) (w : World) (hs : s.size ≤ 1073741824) : Calls Tryz.prog 135 #[.string s] w (LisR s w) := by
  obtain ⟨i0, hi, hz0, hz1, hz2⟩ := info_parts info3
  go_enter Tryz.func135, Tryz.ntmps135
  go_wp2_with fail
  go_loopw [0, 4] (fun x v wr => ∃ (cur : ByteArray) (l : List Int), x = .string cur ∧ cur.size ≤ s.size ∧ wr.ownsRow w.heap.size 3 1 v l.length (icells l) ∧ l.length ≤ 20001 ∧ Hid (PartsOk l) ∧ Below w.heap.size w wr ∧ Hid (LisG s cur l)) (fun x _ _ => szOf x)
  case atStart => exact ⟨s, [], rfl, Nat.le_refl _, World.ownsRow_nil _ _ _ _, Nat.zero_le _, (fun p hp => by simp at hp), Below.refl _ _, fun ps h1 h2 h3 h4 => ⟨ps, h1, rfl, h4⟩⟩
  case round =>
    obtain ⟨cur, l, rfl, hcs, hown, hl, hpo, hb, hg⟩ := hrel
    have HU : Hid (∀ W, Calls Tryz.prog 85 #[.string cur, .string ⟨#[44]⟩] W fun e w' => e = untilE cur sComma ∧ Below W.heap.size W w') := fun W => until_any cur sComma W (by omega) (by decide) (by decide)
    obtain ⟨va, vc, hve⟩ := (RowIn.own hown).form
    rw [show (icells l).length = l.length by simp [icells]] at hve
    subst hve
    cases hc : cutO cur sComma with
    | some p =>
      obtain ⟨a, rest⟩ := p
      have HE : Hid (untilE cur sComma = .returned (.tuple #[.string a, .string rest, .bool true])) := by unfold Hid untilE; rw [hc]
      have hz := congrArg ByteArray.size (cutO_is hc)
      rw [ByteArray.size_append, ByteArray.size_append, show sComma.size = 1 from rfl] at hz
      have HC := Lib.hid hc
      clear hc
      have HS : Hid (∀ W, Calls Tryz.prog 63 #[.string a] W fun e w' => SmaR a e ∧ Below W.heap.size W w') := fun W => small_any a W (by omega)
      go_wp2_with fail
      refine (HU.out _).mono ?_
      rintro e w1 ⟨he, hb1⟩
      rw [HE.out] at he
      subst he
      have hbb1 := hb.trans (hb1.mono hb.size)
      have hown1 := own_below hown hb1
      go_wp2_with fail
      refine (HS.out _).mono ?_
      rintro e w2 ⟨⟨m, rfl, hm⟩, hb2⟩
      have hown2 := own_below hown1 hb2
      have hbb2 := hbb1.trans (hb2.mono hbb1.size)
      have hbs2 := hbb2.size
      have HM := Lib.hid hm
      have HB2 := Lib.hid hbb2
      clear hm hown hown1 hb1 hb2 hbb1 hb
      cases hsb : smallB a with
      | false =>
        have HN := Lib.hid fun ps h1 h2 h3 => lis_bad hg.out HC.out (.inl hsb) (ps := ps) h1 h2 h3
        clear hown2 hbb2
        go_wp2
        go_ret2
        exact lis_no HB2.out HN.out
      | true =>
        by_cases hlen : 20000 < l.length
        · have hli : (20000 : Int) < (l.length : Int) := by omega
          have HN := Lib.hid fun ps h1 h2 h3 => lis_bad hg.out HC.out (.inr hlen) (ps := ps) h1 h2 h3
          clear hown2 hbb2
          go_wp2
          go_ret2
          exact lis_no HB2.out HN.out
        · have hli : ¬ (20000 : Int) < (l.length : Int) := by omega
          have HSB := Lib.hid hsb
          clear hsb
          go_wp2_with (at_builtin; refine wpList_append_own _ rfl _ _ 23 rfl w.heap.size 3 i0 (.int .i64 0) 1 8 Tryz.underlying23 hi hz0 hz1 hz2 rfl (by decide) (.slice va l.length vc) l.length (icells l) rfl (hown2.alloc _) ⟨w2.heap.size, 0, none⟩ 1 1 [.int .i64 m] rfl rfl (news_new _ _ _) (by intro u hu; simp at hu; subst hu; rfl) (by unfold maxLen; omega) (by omega) (by simp; omega) ?_; intro v3 w3 hown3 hgr3 _)
          have hb3 : Below w.heap.size w w3 := hbb2.trans (((Below.refl _ _).alloc hbb2.size _).grown hgr3 (by simp; omega) (own_lt hown2))
          have hown3' : w3.ownsRow w.heap.size 3 1 v3 (l ++ [m]).length (icells (l ++ [m])) := own_eq hown3 (by simp) (by simp [icells])
          go_wp2_with fail
          go_roundw
          case rel => exact ⟨rest, l ++ [m], rfl, by omega, hown3', by simp; omega, parts_snoc hpo.out HSB.out HM.out, hb3, lis_more hg.out HC.out HM.out⟩
          case measure => simp [szOf]; omega
    | none =>
      have HE : Hid (untilE cur sComma = .returned (.tuple #[.string ⟨#[]⟩, .string ⟨#[]⟩, .bool false])) := by unfold Hid untilE; rw [hc]
      have HC := Lib.hid hc
      clear hc
      have HS : Hid (∀ W, Calls Tryz.prog 63 #[.string cur] W fun e w' => SmaR cur e ∧ Below W.heap.size W w') := fun W => small_any cur W (by omega)
      go_wp2_with fail
      refine (HU.out _).mono ?_
      rintro e w1 ⟨he, hb1⟩
      rw [HE.out] at he
      subst he
      have hbb1 := hb.trans (hb1.mono hb.size)
      have hown1 := own_below hown hb1
      go_wp2_with fail
      refine (HS.out _).mono ?_
      rintro e w2 ⟨⟨m, rfl, hm⟩, hb2⟩
      have hown2 := own_below hown1 hb2
      have hbb2 := hbb1.trans (hb2.mono hbb1.size)
      have hbs2 := hbb2.size
      have HM := Lib.hid hm
      have HB2 := Lib.hid hbb2
      clear hm hown hown1 hb1 hb2 hbb1 hb
      cases hsb : smallB cur with
      | false =>
        have HN := Lib.hid fun ps h1 h2 h3 => lis_badL hg.out HC.out (.inl hsb) (ps := ps) h1 h2 h3
        clear hown2 hbb2
        go_wp2
        go_ret2
        exact lis_no HB2.out HN.out
      | true =>
        by_cases hlen : 20000 < l.length
        · have hli : (20000 : Int) < (l.length : Int) := by omega
          have HN := Lib.hid fun ps h1 h2 h3 => lis_badL hg.out HC.out (.inr hlen) (ps := ps) h1 h2 h3
          clear hown2 hbb2
          go_wp2
          go_ret2
          exact lis_no HB2.out HN.out
        · have hli : ¬ (20000 : Int) < (l.length : Int) := by omega
          have HSB := Lib.hid hsb
          clear hsb
          go_wp2_with (at_builtin; refine wpList_append_own _ rfl _ _ 23 rfl w.heap.size 3 i0 (.int .i64 0) 1 8 Tryz.underlying23 hi hz0 hz1 hz2 rfl (by decide) (.slice va l.length vc) l.length (icells l) rfl (hown2.alloc _) ⟨w2.heap.size, 0, none⟩ 1 1 [.int .i64 m] rfl rfl (news_new _ _ _) (by intro u hu; simp at hu; subst hu; rfl) (by unfold maxLen; omega) (by omega) (by simp; omega) ?_; intro v3 w3 hown3 hgr3 _)
          have hb3 : Below w.heap.size w w3 := hbb2.trans (((Below.refl _ _).alloc hbb2.size _).grown hgr3 (by simp; omega) (own_lt hown2))
          have hown3' : w3.ownsRow w.heap.size 3 1 v3 (l ++ [m]).length (icells (l ++ [m])) := own_eq hown3 (by simp) (by simp [icells])
          go_wp2_with fail
          go_ret2
          exact ⟨l ++ [m], v3, true, rfl, hown3', by simp; omega, parts_snoc hpo.out HSB.out HM.out, hb3, fun ps h1 h2 h3 h4 => ⟨rfl, (lis_last hg.out HC.out HM.out h1 h2 h3 h4).symm⟩⟩
end Go.Proofs.YtnlooggibopknaaGreatDoor
