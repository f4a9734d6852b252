/-
  Plain laws of the pure functions.
  Conditions: those that each statement prints, and no other.
-/
import Derived.Test.YtbikfekdakigiaaGreatDoorGPKF
import Derived.Test.YtbikfekdakigiaaGreatDoorEvA
import Derived.Lib.ParseIntBTie
import Derived.Lib.ReplaceLaws
import Derived.Lib.IndexMore
set_option linter.unusedVariables false
set_option linter.unusedSimpArgs false
/-! Values as text: plain functions. -/
namespace Go.Proofs.YtbikfekdakigiaaGreatDoor.E
open Go.Ev

abbrev Bs := List UInt8
/-- A number of 64 bits. -/
def I64 (n : Int) : Prop := -9223372036854775808 ≤ n ∧ n ≤ 9223372036854775807

/-! ### Numerals -/

theorem parse_app : ∀ (a b : Bs) (acc : Nat), Lib.parseUint10 acc (a ++ b) = match Lib.parseUint10 acc a with
    | .ok m => Lib.parseUint10 m b
    | .syntax => .syntax
    | .range => .range
  | [], b, acc => rfl
  | c :: a, b, acc => by
    simp only [List.cons_append, Lib.parseUint10]
    split
    · split
      · rfl
      · split
        · rfl
        · exact parse_app a b _
    · rfl

theorem parse_one {acc d : Nat} (hd : d < 10) (h : acc * 10 + d < 18446744073709551616) : Lib.parseUint10 acc [UInt8.ofNat (48 + d)] = .ok (acc * 10 + d) := by
  have e : (UInt8.ofNat (48 + d)).toNat = 48 + d := by simp; omega
  simp only [Lib.parseUint10, e]
  rw [if_pos (by omega), if_neg (by omega), if_neg (by omega)]
  congr 1; omega

theorem dig_lt {u : Nat} (h : u < 10) : Lib.decDigits u = [UInt8.ofNat (48 + u)] := by rw [Lib.decDigits, dif_pos h]
theorem dig_ge {u : Nat} (h : ¬ u < 10) : Lib.decDigits u = Lib.decDigits (u / 10) ++ [UInt8.ofNat (48 + u % 10)] := by rw [Lib.decDigits, dif_neg h]

theorem parse_dec (u : Nat) : u < 18446744073709551616 → Lib.parseUint10 0 (Lib.decDigits u) = .ok u := by
  induction u using Nat.strongRecOn with
  | ind u ih =>
    intro h
    by_cases h10 : u < 10
    · rw [dig_lt h10, parse_one h10 (by omega)]; congr 1; omega
    · rw [dig_ge h10, parse_app, ih (u / 10) (by omega) (by omega)]
      dsimp only
      rw [parse_one (by omega) (by omega)]; congr 1; omega

theorem parse_zeros (l : Bs) : ∀ k, Lib.parseUint10 0 (List.replicate k 48 ++ l) = Lib.parseUint10 0 l
  | 0 => rfl
  | k + 1 => by
    rw [List.replicate_succ, List.cons_append]
    simp only [Lib.parseUint10]
    rw [if_pos (by decide), if_neg (by decide), if_neg (by decide)]
    exact parse_zeros l k

/-- A figure. -/
def isFig (c : UInt8) : Prop := 48 ≤ c.toNat ∧ c.toNat ≤ 57
theorem fig_of {d : Nat} (h : d < 10) : isFig (UInt8.ofNat (48 + d)) := by
  have e : (UInt8.ofNat (48 + d)).toNat = 48 + d := by simp; omega
  unfold isFig; rw [e]; omega

theorem dec_fig (u : Nat) : ∀ c ∈ Lib.decDigits u, isFig c := by
  induction u using Nat.strongRecOn with
  | ind u ih =>
    intro c hc
    by_cases h10 : u < 10
    · rw [dig_lt h10, List.mem_singleton] at hc; subst hc; exact fig_of h10
    · rw [dig_ge h10] at hc
      rcases List.mem_append.1 hc with h | h
      · exact ih (u / 10) (by omega) c h
      · rw [List.mem_singleton] at h; subst h; exact fig_of (by omega)

theorem dec_ne (u : Nat) : Lib.decDigits u ≠ [] := by
  by_cases h10 : u < 10
  · rw [dig_lt h10]; simp
  · rw [dig_ge h10]; simp

theorem dec_len_pos (u : Nat) : 1 ≤ (Lib.decDigits u).length := List.length_pos_iff.2 (dec_ne u)

theorem dec_len {u : Nat} (h : u < 18446744073709551616) : (Lib.decDigits u).length ≤ 20 := by
  rw [Lib.decDigits_length]; exact Lib.nDigits_le20 u h

/-- The sign. -/
def sgn (n : Int) : Bs := if n < 0 then [45] else []

theorem itoa_eq (n : Int) : Lib.itoa n = sgn n ++ Lib.decDigits n.natAbs := by
  unfold Lib.itoa sgn
  split
  · rfl
  · have : n.toNat = n.natAbs := by omega
    rw [this]; rfl

theorem parse_signed {n : Int} (hn : I64 n) (k : Nat) : Lib.parseIntB 64 (sgn n ++ (List.replicate k 48 ++ Lib.decDigits n.natAbs)) = .ok n := by
  obtain ⟨h1, h2⟩ := hn
  rw [Lib.parseIntB_64]
  have hl : ∀ c ∈ List.replicate k 48 ++ Lib.decDigits n.natAbs, isFig c := by
    intro c hc
    rcases List.mem_append.1 hc with h | h
    · obtain ⟨_, rfl⟩ := List.mem_replicate.1 h; exact ⟨by decide, by decide⟩
    · exact dec_fig _ c h
  have hne : List.replicate k 48 ++ Lib.decDigits n.natAbs ≠ [] := by
    intro e; exact dec_ne _ (List.append_eq_nil_iff.1 e).2
  have hp : Lib.parseMag (List.replicate k 48 ++ Lib.decDigits n.natAbs) = .ok n.natAbs := by
    unfold Lib.parseMag
    rw [if_neg hne, parse_zeros, parse_dec _ (by omega)]
  generalize List.replicate k 48 ++ Lib.decDigits n.natAbs = l at *
  unfold sgn
  by_cases hneg : n < 0
  · rw [if_pos hneg]
    show Lib.atoiAll (45 :: l) = _
    unfold Lib.atoiAll
    have h45 : (45 : UInt8).toNat = 45 := rfl
    dsimp only
    rw [if_pos (.inr h45), hp]
    dsimp only
    rw [if_neg (fun h => h.1 h45), if_neg (fun h => by have := h.2; omega), if_pos h45]
    congr 1; omega
  · rw [if_neg hneg, List.nil_append]
    cases l with
    | nil => exact absurd rfl hne
    | cons c r =>
      have hc := hl c (by simp)
      obtain ⟨c1, c2⟩ := hc
      unfold Lib.atoiAll
      dsimp only
      rw [if_neg (by omega), hp]
      dsimp only
      rw [if_neg (by omega), if_neg (by omega), if_neg (by omega)]
      congr 1; omega

theorem parse_itoa {n : Int} (hn : I64 n) : Lib.parseIntB 64 (Lib.itoa n) = .ok n := by
  rw [itoa_eq]; exact parse_signed hn 0

theorem parseV_ok {l : Bs} {n : Int} (h : Lib.parseIntB 64 l = .ok n) : parseV l = n ∧ parseE l = .nil := by
  unfold parseV parseE; rw [h]; exact ⟨rfl, rfl⟩

/-! ### Replacing -/

theorem rep_eq {s old new : Bs} (h : (old == new) = false) : Lib.replaceAll s old new = Lib.replaceK old new (Lib.count s old) s := by
  unfold Lib.replaceAll Lib.replace Lib.replaceNum
  rw [h]; simp

theorem rep_hit {old new r : Bs} (h : (old == new) = false) (ho : old ≠ []) : Lib.replaceAll (old ++ r) old new = new ++ Lib.replaceAll r old new := by
  have h0 : Lib.index (old ++ r) old = ((0 : Nat) : Int) := by
    cases old with
    | nil => exact absurd rfl ho
    | cons c o => simp [Lib.index]
  rw [rep_eq h, rep_eq h, Lib.count_hit ho h0]
  have e : (old ++ r).drop (0 + old.length) = r := by simp
  rw [e, Nat.add_comm, Lib.replaceK_hit _ _ _ _ 0 h0, e]
  simp

theorem rep_miss {old new s : Bs} {c : UInt8} (h : (old == new) = false) (ho : old ≠ []) (hp : old.isPrefixOf (c :: s) = false) : Lib.replaceAll (c :: s) old new = c :: Lib.replaceAll s old new := by
  have hi : Lib.index (c :: s) old = if Lib.index s old == -1 then -1 else Lib.index s old + 1 := by
    conv => lhs; unfold Lib.index
    rw [hp]; simp
  rw [rep_eq h, rep_eq h]
  have hge := Lib.index_ge s old
  by_cases hm : Lib.index s old = -1
  · have : Lib.index (c :: s) old = -1 := by rw [hi, hm]; rfl
    rw [Lib.count_miss hm, Lib.count_miss this]
    rfl
  · obtain ⟨i, h1⟩ : ∃ i : Nat, Lib.index s old = i := ⟨(Lib.index s old).toNat, by omega⟩
    have h2 : Lib.index (c :: s) old = ((i + 1 : Nat) : Int) := by
      rw [hi, if_neg (by simpa using hm), h1]; rfl
    rw [Lib.count_hit ho h1, Lib.count_hit ho h2]
    have e : (c :: s).drop (i + 1 + old.length) = s.drop (i + old.length) := by
      rw [show i + 1 + old.length = (i + old.length) + 1 by omega]; rfl
    rw [e, Nat.add_comm 1, Lib.replaceK_hit _ _ _ _ _ h1, Lib.replaceK_hit _ _ _ _ _ h2, e]
    rfl

theorem rep_nil {old new : Bs} (ho : old ≠ []) : Lib.replaceAll [] old new = [] := by
  by_cases h : (old == new) = true
  · unfold Lib.replaceAll Lib.replace; rw [if_pos h]
  · rw [rep_eq (by simpa using h)]
    have : Lib.index [] old = -1 := by
      cases old with
      | nil => exact absurd rfl ho
      | cons c o => rfl
    rw [Lib.count_miss this]; rfl

/-- Quotes doubled. -/
def dbl : Bs → Bs
  | [] => []
  | c :: r => if c = 39 then 39 :: 39 :: dbl r else c :: dbl r

theorem rep_dbl : ∀ s : Bs, Lib.replaceAll s [39] [39, 39] = dbl s
  | [] => rep_nil (by simp)
  | c :: r => by
    unfold dbl
    by_cases h : c = 39
    · subst h
      rw [if_pos rfl]
      have := rep_hit (old := [39]) (new := [39, 39]) (r := r) (by decide) (by simp)
      rw [rep_dbl r] at this
      exact this
    · rw [if_neg h, rep_miss (by decide) (by simp) (by simp [List.isPrefixOf, Ne.symm h]), rep_dbl r]

theorem rep_undbl : ∀ s : Bs, Lib.replaceAll (dbl s) [39, 39] [39] = s
  | [] => rep_nil (by simp)
  | c :: r => by
    unfold dbl
    by_cases h : c = 39
    · subst h
      rw [if_pos rfl]
      have := rep_hit (old := [39, 39]) (new := [39]) (r := dbl r) (by decide) (by simp)
      rw [rep_undbl r] at this
      exact this
    · rw [if_neg h, rep_miss (by decide) (by simp) (by simp [List.isPrefixOf, Ne.symm h]), rep_undbl r]

theorem dbl_len : ∀ s : Bs, (dbl s).length ≤ 2 * s.length
  | [] => by simp [dbl]
  | c :: r => by
    have := dbl_len r
    unfold dbl
    split <;> simp <;> omega

/-! ### Figures to the base 16 -/

def hexTab : Bs := [48, 49, 50, 51, 52, 53, 54, 55, 56, 57, 97, 98, 99, 100, 101, 102]
def hx (k : Nat) : UInt8 := hexTab.getD k 0
def hexs : Bs → Bs
  | [] => []
  | c :: r => hx (c.toNat / 16) :: hx (c.toNat % 16) :: hexs r

theorem hexs_len : ∀ s : Bs, (hexs s).length = 2 * s.length
  | [] => rfl
  | c :: r => by simp [hexs, hexs_len r]; omega

theorem hexs_app : ∀ a b : Bs, hexs (a ++ b) = hexs a ++ hexs b
  | [], b => rfl
  | c :: a, b => by simp [hexs, hexs_app a b]

theorem index_hx_fin : ∀ i : Fin 16, Lib.indexByte hexTab (hx i.val) = (i.val : Int) := by decide
theorem index_hx {k : Nat} (h : k < 16) : Lib.indexByte hexTab (hx k) = (k : Int) := index_hx_fin ⟨k, h⟩

end Go.Proofs.YtbikfekdakigiaaGreatDoor.E
