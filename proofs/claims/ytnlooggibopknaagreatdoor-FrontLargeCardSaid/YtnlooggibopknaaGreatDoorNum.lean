/- Decimal numbers in plain words: which text is a number's, and what strconv's readers make of it. -/
import Derived.Test.YtnlooggibopknaaGreatDoorTg
import Derived.Lib.AtoiAllCases
import Derived.Lib.ParseIntB
import Derived.Test.YtnlooggibopknaaGreatDoorW6
import Derived.Lib.SplitLaws
import Derived.Lib.Strings
namespace Go.Proofs.YtnlooggibopknaaGreatDoor
open Go.RowKit

theorem dec_ne (n : Nat) : Lib.decDigits n ≠ [] := by rw [Lib.decDigits]; split <;> simp
theorem u8dig (d : Nat) (h : d < 10) : (UInt8.ofNat (48 + d)).toNat = 48 + d := by rw [UInt8.toNat_ofNat']; omega
theorem dec_dig : ∀ (n : Nat) (c : UInt8), c ∈ Lib.decDigits n → 48 ≤ c.toNat ∧ c.toNat ≤ 57
  | n, c, h => by
    rw [Lib.decDigits] at h
    split at h
    · rename_i hn
      simp only [List.mem_singleton] at h
      subst h
      rw [u8dig n hn]; omega
    · rename_i hn
      simp only [List.mem_append, List.mem_singleton] at h
      rcases h with h | h
      · exact dec_dig (n / 10) c h
      · subst h
        rw [u8dig _ (Nat.mod_lt _ (by decide))]; omega
  termination_by n => n
  decreasing_by omega

/-- One digit more. -/
def stepM (M : Nat) (c : UInt8) : Lib.NumEnd Nat → Lib.NumEnd Nat
  | .ok acc => Lib.parseUintM M acc [c]
  | x => x
theorem parseM_snoc (M : Nat) (c : UInt8) : ∀ (l : List UInt8) (acc : Nat), Lib.parseUintM M acc (l ++ [c]) = stepM M c (Lib.parseUintM M acc l)
  | [], acc => rfl
  | d :: l, acc => by
    simp only [List.cons_append, Lib.parseUintM]
    split
    · split
      · rfl
      · split
        · rfl
        · exact parseM_snoc M c l _
    · rfl
theorem parseM_dec (M : Nat) (hM : M ≤ 18446744073709551615) : ∀ n : Nat, n ≤ M → Lib.parseUintM M 0 (Lib.decDigits n) = .ok n
  | n, h => by
    rw [Lib.decDigits]
    split
    · rename_i hn
      simp only [Lib.parseUintM, u8dig n hn]
      rw [if_pos (by omega), if_neg (by omega), if_neg (by omega)]
      congr 1; omega
    · rename_i hn
      have hm : n % 10 < 10 := Nat.mod_lt _ (by decide)
      rw [parseM_snoc, parseM_dec M hM (n / 10) (by omega)]
      simp only [stepM, Lib.parseUintM, u8dig _ hm]
      rw [if_pos (by omega), if_neg (by omega), if_neg (by omega)]
      congr 1; omega
  termination_by n => n
  decreasing_by omega
theorem parse10_eq : ∀ (l : List UInt8) (acc : Nat), Lib.parseUint10 acc l = Lib.parseUintM 18446744073709551615 acc l
  | [], _ => rfl
  | c :: l, acc => by
    simp only [Lib.parseUint10, Lib.parseUintM]
    split
    · split
      · rfl
      · by_cases h : 18446744073709551616 ≤ acc * 10 + (c.toNat - 48)
        · rw [if_pos h, if_pos (by omega)]
        · rw [if_neg h, if_neg (by omega)]
          exact parse10_eq l _
    · rfl
theorem parseB_dec (n : Nat) (h : n ≤ 18446744073709551615) : Lib.parseUintB 64 (Lib.decDigits n) = .ok n := by
  unfold Lib.parseUintB
  rw [if_neg (dec_ne n)]
  exact parseM_dec _ (by decide) n (by omega)
theorem atoi_dec (n : Nat) (h : n ≤ 9223372036854775807) : Lib.atoiAll (Lib.decDigits n) = .ok (n : Int) := by
  have hp : Lib.parseMag (Lib.decDigits n) = .ok n := by
    unfold Lib.parseMag
    rw [if_neg (dec_ne n), parse10_eq]
    exact parseM_dec _ (by decide) n (by omega)
  have hd := dec_dig n
  revert hp hd
  cases hl : Lib.decDigits n with
  | nil => exact absurd hl (dec_ne n)
  | cons c r =>
    intro hp hd
    have hc := hd c (by simp)
    unfold Lib.atoiAll
    rw [show (c :: r : List UInt8) = c :: r from rfl]
    simp only
    rw [if_neg (by omega), hp]
    simp only
    rw [if_neg (by omega), if_neg (by omega), if_neg (by omega)]
theorem dec_inj {a b : Nat} (h : Lib.decDigits a = Lib.decDigits b) : a = b := by
  have key : ∀ (n : Nat), (Lib.decDigits n).foldl (fun acc c => 10 * acc + (c.toNat - 48)) 0 = n := by
    intro n
    induction n using Nat.strongRecOn with
    | ind n ih =>
      rw [Lib.decDigits]
      split
      · rename_i hn
        simp only [List.foldl_cons, List.foldl_nil, u8dig n hn]
        omega
      · rename_i hn
        rw [List.foldl_append, ih (n / 10) (by omega)]
        simp only [List.foldl_cons, List.foldl_nil, u8dig _ (Nat.mod_lt n (by decide : 0 < 10))]
        omega
  rw [← key a, h, key b]

open Classical in
/-- The number whose decimal text this is, if an int holds it. -/
noncomputable def numF (s : List UInt8) : Option Nat := if h : ∃ m, m ≤ 9223372036854775807 ∧ Lib.decDigits m = s then some h.choose else none
theorem numF_iff {s : List UInt8} {m : Nat} : numF s = some m ↔ m ≤ 9223372036854775807 ∧ Lib.decDigits m = s := by
  constructor
  · intro h
    unfold numF at h
    split at h
    · rename_i hx
      rw [← Option.some.inj h]; exact hx.choose_spec
    · cases h
  · rintro ⟨h1, h2⟩
    have hx : ∃ m, m ≤ 9223372036854775807 ∧ Lib.decDigits m = s := ⟨m, h1, h2⟩
    unfold numF
    rw [dif_pos hx]
    exact congrArg some (dec_inj (hx.choose_spec.2.trans h2.symm))
theorem numF_none {s : List UInt8} (h : numF s = none) (m : Nat) (hm : m ≤ 9223372036854775807) : Lib.decDigits m ≠ s := fun e => by
  rw [numF_iff.2 ⟨hm, e⟩] at h; cases h
end Go.Proofs.YtnlooggibopknaaGreatDoor

/- What the parser makes of a text, in plain words. -/
namespace Go.Proofs.YtnlooggibopknaaGreatDoor
open Go.RowKit

def mkB (l : List UInt8) : ByteArray := ⟨l.toArray⟩
theorem mkB_data (l : List UInt8) : (mkB l).data.toList = l := by simp [mkB]
theorem mkB_of (s : ByteArray) : mkB s.data.toList = s := by simp [mkB]
def spl (s sep : ByteArray) : List ByteArray := Lib.splitB sep 0 (Lib.countB s sep) s
theorem spl_len (s sep : ByteArray) (h1 : 1 ≤ sep.size) : (spl s sep).length = Lib.countB s sep + 1 := Lib.splitB_all sep h1 0 _ s rfl
def tp (s p : ByteArray) : ByteArray := ⟨(Lib.trimPrefix s.data.toList p.data.toList).toArray⟩
def hp (s p : ByteArray) : Bool := Lib.hasPrefix s.data.toList p.data.toList
def sComma : ByteArray := ⟨#[44]⟩

open Classical in
/-- Texts that are numbers, all of them. -/
noncomputable def numsF (l : List ByteArray) : Option (List Nat) := if h : ∃ ps : List Nat, l.map (fun s => numF s.data.toList) = ps.map some then some h.choose else none
theorem map_some_inj : ∀ {a b : List Nat}, a.map some = b.map some → a = b
  | [], [], _ => rfl
  | [], _ :: _, h => by simp at h
  | _ :: _, [], h => by simp at h
  | x :: a, y :: b, h => by
    simp only [List.map_cons, List.cons.injEq, Option.some.injEq] at h
    rw [h.1, map_some_inj h.2]
theorem numsF_iff {l : List ByteArray} {ps : List Nat} : numsF l = some ps ↔ l.map (fun s => numF s.data.toList) = ps.map some := by
  constructor
  · intro h
    unfold numsF at h
    split at h
    · rename_i hx
      rw [← Option.some.inj h]; exact hx.choose_spec
    · cases h
  · intro h
    have hx : ∃ ps : List Nat, l.map (fun s => numF s.data.toList) = ps.map some := ⟨ps, h⟩
    unfold numsF
    rw [dif_pos hx]
    exact congrArg some (map_some_inj (hx.choose_spec.symm.trans h))
theorem numsF_none {l : List ByteArray} {k : Nat} (hk : k < l.length) (h : numF l[k].data.toList = none) : numsF l = none := by
  cases hn : numsF l with
  | none => rfl
  | some ps =>
    have := numsF_iff.1 hn
    have hl : l.length = ps.length := by have := congrArg List.length this; simpa using this
    have e := congrArg (fun x => x[k]?) this
    simp only [List.getElem?_map, List.getElem?_eq_getElem hk, List.getElem?_eq_getElem (show k < ps.length by omega), Option.map_some, Option.some.injEq] at e
    rw [h] at e
    cases e

def upId (s : ByteArray) : ByteArray := if 16 < s.size then s.extract 0 16 else s
def upRest (s : ByteArray) : ByteArray := if 16 < s.size then s.extract 16 s.size else ⟨#[]⟩
def ints (ps : List Nat) : List Int := ps.map Int.ofNat

def opPart (u m : Nat) : O := ⟨0, 8, ⟨#[]⟩, ⟨#[]⟩, ⟨#[]⟩, m, u, [], []⟩
def opParts (u : Nat) (ps : List Nat) : O := ⟨0, 9, ⟨#[]⟩, ⟨#[]⟩, ⟨#[]⟩, 0, u, ints ps, []⟩
def opAbort (u : Nat) : O := ⟨0, 10, ⟨#[]⟩, ⟨#[]⟩, ⟨#[]⟩, 0, u, [], []⟩
noncomputable def uploadU (how rest : ByteArray) (u : Nat) : Option O :=
  if hp rest sPart = true ∧ how = bPUT then (numF (tp rest sPart).data.toList).map (opPart u)
  else if hp rest sParts = true ∧ how = bPOST then (numsF (spl (tp rest sParts) sComma)).map (opParts u)
  else if rest.size = 0 ∧ how = bDELETE then some (opAbort u)
  else none
noncomputable def uploadF (how s : ByteArray) : Option O := (unhexL (upId s).data.toList).bind (uploadU how (upRest s))
theorem uploadF_none {how s : ByteArray} (hu : unhexL (upId s).data.toList = none) : uploadF how s = none := by
  unfold uploadF
  rw [hu, Option.bind_none]
theorem uploadF_some {how s : ByteArray} {u : Nat} (hu : unhexL (upId s).data.toList = some u) : uploadF how s = uploadU how (upRest s) u := by
  unfold uploadF
  rw [hu, Option.bind_some]

def sQ : ByteArray := ⟨#[63]⟩
/-- strings.Cut, as the parser takes it. -/
def cutO (s sep : ByteArray) : Option (ByteArray × ByteArray) :=
  if (Lib.cut s.data.toList sep.data.toList).2.2 then some (mkB (Lib.cut s.data.toList sep.data.toList).1, mkB (Lib.cut s.data.toList sep.data.toList).2.1) else none
def kindK (how : ByteArray) : Int := if how = bPUT then 3 else if how = bGET then 4 else if how = bDELETE then 5 else if how = bPOST then 7 else 0
def kindM (how : ByteArray) : Int := if how = bPUT then 1 else if how = bDELETE then 2 else 0
def opKey (how name : ByteArray) (k : List UInt8) : O := ⟨0, kindK how, name, mkB k, ⟨#[]⟩, 0, 0, [], []⟩
def opList (name : ByteArray) (k a : List UInt8) (m : Nat) : O := ⟨0, 6, name, mkB k, mkB a, m, 0, [], []⟩
def opBucket (how name : ByteArray) : O := ⟨0, kindM how, name, ⟨#[]⟩, ⟨#[]⟩, 0, 0, [], []⟩
noncomputable def keyedF (how name key : ByteArray) : Option O := (unescL key.data.toList).map (opKey how name)
noncomputable def listF (name rest : ByteArray) : Option O :=
  (cutO rest sAfter).bind fun p => (cutO p.2 sN).bind fun q => (unescL p.1.data.toList).bind fun k => (unescL q.1.data.toList).bind fun a => (numF q.2.data.toList).map fun m => opList name k a m
noncomputable def plainF (how s : ByteArray) : Option O := match cutO s sPrefix with
  | some p => listF p.1 p.2
  | none => some (opBucket how s)
noncomputable def slashF (how s : ByteArray) : Option O := match cutO s sSlash with
  | some p => if Lib.contains p.1.data.toList sQ.data.toList then plainF how s else keyedF how p.1 p.2
  | none => plainF how s
noncomputable def targetF (how s : ByteArray) : Option O :=
  if hp s sUpload = true then uploadF how (tp s sUpload) else (cutO s sSlash).bind fun p => slashF how p.2
end Go.Proofs.YtnlooggibopknaaGreatDoor
