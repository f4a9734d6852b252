/-
  Plain laws of the pure functions.
  Conditions: those that each statement prints, and no other.
-/
import Derived.Test.YtiloinbeojampaaGreatDoorPParTP
set_option linter.unusedVariables false
set_option linter.unusedSimpArgs false
/-! Columns' numbers, and the greatest one. -/
namespace Go.Proofs.YtiloinbeojampaaGreatDoor.E
open Go.Ev
set_option maxRecDepth 100000

abbrev Qx := Int × Int × Int × List UInt8 × List UInt8 × List UInt8 × Int × List Ex × Int × Int × Unit
def fx (x : Ex) : Qx := (x.op, x.vk, x.vn, x.vs, x.tab, x.name, x.num, x.kids, x.kind, x.at_, ())

/-- A column's number. -/
def nmb (op : Int) (name : List UInt8) (num : Int) : Int := if op = 2 then match name with
  | [] => num
  | c :: _ => IntKind.wrap .i64 ((IntKind.wrap .i64 ((IntKind.wrap .i64 (c.toNat : Int)) - 97)) + 0)
  else num

mutual
def numX : Ex → Ex
  | .mk op vk vn vs tab name num ks kind at_ => .mk op vk vn vs tab name (nmb op name num) (numL ks) kind at_
def numL : List Ex → List Ex
  | [] => []
  | x :: r => numX x :: numL r
end

theorem numL_map : ∀ l : List Ex, numL l = l.map numX
  | [] => rfl
  | x :: r => by simp [numL, numL_map r]

mutual
theorem hgt_num : ∀ x : Ex, hgt (numX x) = hgt x
  | .mk op vk vn vs tab name num ks kind at_ => by simp only [numX, hgt]; rw [hgt_numL ks]
theorem hgt_numL : ∀ l : List Ex, hgtL (numL l) = hgtL l
  | [] => rfl
  | x :: r => by simp only [numL, hgtL]; rw [hgt_num x, hgt_numL r]
end

theorem hgtL_len : ∀ l : List Ex, l.length ≤ hgtL l
  | [] => Nat.le_refl _
  | x :: r => by have := hgtL_len r; have := hgt_pos x; simp only [hgtL, List.length_cons]; omega

theorem hgtL_mem : ∀ {l : List Ex} {x : Ex}, x ∈ l → hgt x ≤ hgtL l
  | y :: r, x, h => by
    simp only [hgtL]
    rcases List.mem_cons.1 h with rfl | h
    · omega
    · have := hgtL_mem h; omega

theorem numbered_l1 (N : Nat) [Z : Z_law20_numbered] {R : Type} (k0 : List Ex → Int → Int → Int → List UInt8 → List UInt8 → List UInt8 → Int → List Ex → Int → Int → Int → Int → Int → List UInt8 → List UInt8 → List UInt8 → Int → Int → Int → Option R) (ks : List Ex) (hk : ks.length ≤ 100000)
    (h : ∀ y ∈ ks, Z.r_law20_numbered y.op y.vk y.vn y.vs y.tab y.name y.num y.kids y.kind y.at_ 0 = some (fx (numX y))) (a b c : Int) (d e f : List UInt8) (g i j k l m : Int) (n o p : List UInt8) (q r s : Int) :
    ∀ (fuel t : Nat), t ≤ ks.length → ks.length - t < fuel →
      law20_numbered_o_l1 N R k0 fuel 0 ((ks.take t).map numX) (t : Int) a b c d e f g ks i j k l m n o p q r s = k0 (ks.map numX) a b c d e f g ks i j k l m n o p q r s := by
  intro fuel
  induction fuel with
  | zero => intro t _ h; exact absurd h (Nat.not_lt_zero _)
  | succ fuel ih =>
    intro t ht hf
    show law20_numbered_o_l1B N R (law20_numbered_o_l1 N R k0 fuel) k0 0 ((ks.take t).map numX) (t : Int) a b c d e f g ks i j k l m n o p q r s = _
    unfold law20_numbered_o_l1B
    by_cases hlt : t < ks.length
    · rw [if_t (by omega), nth_lt hlt, bind_some', h _ (List.getElem_mem hlt), bind_some', cond_t (room_of (by simp; omega)), wrap_succ hlt (by omega)]
      have e2 : (ks.take t).map numX ++ [Ex.mk (fx (numX ks[t])).1 (fx (numX ks[t])).2.1 (fx (numX ks[t])).2.2.1 (fx (numX ks[t])).2.2.2.1 (fx (numX ks[t])).2.2.2.2.1 (fx (numX ks[t])).2.2.2.2.2.1 (fx (numX ks[t])).2.2.2.2.2.2.1 (fx (numX ks[t])).2.2.2.2.2.2.2.1 (fx (numX ks[t])).2.2.2.2.2.2.2.2.1 (fx (numX ks[t])).2.2.2.2.2.2.2.2.2.1] = (ks.take (t + 1)).map numX := by
        rw [List.take_succ_eq_append_getElem hlt, List.map_append]
        congr 1
        show [Ex.mk _ _ _ _ _ _ _ _ _ _] = [numX ks[t]]
        exact congrArg (fun z => [z]) (mk_eta (numX ks[t]))
      rw [e2]
      exact ih (t + 1) hlt (by omega)
    · rw [if_f (by omega)]
      have e : t = ks.length := by omega
      subst e
      rw [List.take_length]

theorem numbered_z (N : Nat) (hN : 1000000 ≤ N) : ∀ (n : Nat) (x : Ex), hgt x ≤ n → hgt x ≤ 100000 → (Z_law20_numbered_at N n).r_law20_numbered x.op x.vk x.vn x.vs x.tab x.name x.num x.kids x.kind x.at_ 0 = some (fx (numX x))
  | 0, x, h, _ => absurd h (by have := hgt_pos x; omega)
  | n + 1, x, h, hb => by
    obtain ⟨op, vk, vn, vs, tab, name, num, ks, kind, at_⟩ := x
    simp only [hgt] at h hb
    show @law20_numbered_o (Z_law20_numbered_at N n) N op vk vn vs tab name num ks kind at_ 0 = _
    have hl := hgtL_len ks
    have hk : ∀ y ∈ ks, (Z_law20_numbered_at N n).r_law20_numbered y.op y.vk y.vn y.vs y.tab y.name y.num y.kids y.kind y.at_ 0 = some (fx (numX y)) := fun y hy => numbered_z N hN n y (by have := hgtL_mem hy; omega) (by have := hgtL_mem hy; omega)
    have j0 : ∀ (nu : Int) (K : Int → Int → Int → List UInt8 → List UInt8 → List UInt8 → Int → List Ex → Int → Int → Int → Int → Int → List UInt8 → List UInt8 → List UInt8 → Int → List Ex → Int → Int → Option Qx),
        @law20_numbered_o_j0 (Z_law20_numbered_at N n) N Qx K 0 op vk vn vs tab name nu ks kind at_ 0 0 0 [] [] [] 0 0 0 = K op vk vn vs tab name nu (numL ks) kind at_ op vk vn vs tab name nu (numL ks) kind at_ := by
      intro nu K
      unfold law20_numbered_o_j0
      rw [numL_map]
      exact numbered_l1 N (Z := Z_law20_numbered_at N n) _ ks (by omega) hk _ _ _ _ _ _ _ _ _ _ _ _ _ _ _ _ _ _ N 0 (Nat.zero_le _) (by omega)
    unfold law20_numbered_o law20_numbered_o_cps
    show _ = some (op, vk, vn, vs, tab, name, nmb op name num, numL ks, kind, at_, ())
    unfold nmb
    by_cases h2 : op = 2
    · rw [if_t h2, if_pos h2]
      cases name with
      | nil => rw [if_f (by simp), j0]
      | cons c r =>
        rw [if_t (by simp only [List.length_cons]; omega), if_t (by decide), if_t (by decide), show nth (c :: r) 0 = some c from rfl, bind_some', j0]
    · rw [if_f h2, if_neg h2, j0]

theorem numbered_eq (N : Nat) (hN : 1000000 ≤ N) (x : Ex) (hb : hgt x ≤ 100000) : law20_numbered N x.op x.vk x.vn x.vs x.tab x.name x.num x.kids x.kind x.at_ 0 = some (fx (numX x)) := by
  obtain ⟨g, hg⟩ : ∃ g, N = g + 1 := ⟨N - 1, by omega⟩
  have := numbered_z N hN (N + 1) x (by omega) hb
  exact this

/-! ### The greatest column -/

mutual
def grX : Ex → Int
  | .mk op _ _ _ _ _ num ks _ _ => grL ks (if op = 2 then maxI (-1) num else -1)
def grL : List Ex → Int → Int
  | [], a => a
  | x :: r, a => grL r (maxI a (grX x))
end

theorem greatest_l1 (N : Nat) [Z : Z_law20_greatest] {R : Type} (k0 : Int → Int → Int → Int → List UInt8 → List UInt8 → List UInt8 → Int → List Ex → Int → Int → Option R) (ks : List Ex) (hk : ks.length ≤ 100000)
    (h : ∀ y ∈ ks, Z.r_law20_greatest y.op y.vk y.vn y.vs y.tab y.name y.num y.kids y.kind y.at_ = some (grX y, ())) (a b c : Int) (d e f : List UInt8) (g i j : Int) :
    ∀ (fuel t : Nat) (m : Int), t ≤ ks.length → ks.length - t < fuel →
      law20_greatest_o_l1 N R k0 fuel m (t : Int) a b c d e f g ks i j = k0 (grL (ks.drop t) m) a b c d e f g ks i j := by
  intro fuel
  induction fuel with
  | zero => intro t _ _ h; exact absurd h (Nat.not_lt_zero _)
  | succ fuel ih =>
    intro t m ht hf
    show law20_greatest_o_l1B N R (law20_greatest_o_l1 N R k0 fuel) k0 m (t : Int) a b c d e f g ks i j = _
    unfold law20_greatest_o_l1B
    by_cases hlt : t < ks.length
    · rw [if_t (by omega), nth_lt hlt, bind_some', h _ (List.getElem_mem hlt), bind_some', wrap_succ hlt (by omega), List.drop_eq_getElem_cons hlt]
      exact ih (t + 1) _ hlt (by omega)
    · rw [if_f (by omega)]
      have e : t = ks.length := by omega
      subst e
      rw [List.drop_length]; rfl

theorem greatest_z (N : Nat) (hN : 1000000 ≤ N) : ∀ (n : Nat) (x : Ex), hgt x ≤ n → hgt x ≤ 100000 → (Z_law20_greatest_at N n).r_law20_greatest x.op x.vk x.vn x.vs x.tab x.name x.num x.kids x.kind x.at_ = some (grX x, ())
  | 0, x, h, _ => absurd h (by have := hgt_pos x; omega)
  | n + 1, x, h, hb => by
    obtain ⟨op, vk, vn, vs, tab, name, num, ks, kind, at_⟩ := x
    simp only [hgt] at h hb
    show @law20_greatest_o (Z_law20_greatest_at N n) N op vk vn vs tab name num ks kind at_ = _
    have hl := hgtL_len ks
    have hk : ∀ y ∈ ks, (Z_law20_greatest_at N n).r_law20_greatest y.op y.vk y.vn y.vs y.tab y.name y.num y.kids y.kind y.at_ = some (grX y, ()) := fun y hy => greatest_z N hN n y (by have := hgtL_mem hy; omega) (by have := hgtL_mem hy; omega)
    unfold law20_greatest_o law20_greatest_o_cps law20_greatest_o_j0
    show _ = some (grL ks (if op = 2 then maxI (-1) num else -1), ())
    by_cases h2 : op = 2
    · rw [if_t h2, if_pos h2]
      exact greatest_l1 N (Z := Z_law20_greatest_at N n) _ ks (by omega) hk _ _ _ _ _ _ _ _ _ N 0 _ (Nat.zero_le _) (by omega)
    · rw [if_f h2, if_neg h2]
      exact greatest_l1 N (Z := Z_law20_greatest_at N n) _ ks (by omega) hk _ _ _ _ _ _ _ _ _ N 0 _ (Nat.zero_le _) (by omega)

theorem greatest_eq (N : Nat) (hN : 1000000 ≤ N) (x : Ex) (hb : hgt x ≤ 100000) : law20_greatest N x.op x.vk x.vn x.vs x.tab x.name x.num x.kids x.kind x.at_ = some (grX x, ()) := by
  have := greatest_z N hN (N + 1) x (by omega) hb
  exact this

/-! ### Columns are no greater -/

mutual
def colsX (p : Int → Prop) : Ex → Prop
  | .mk op _ _ _ _ _ num ks _ _ => (op = 2 → p num) ∧ colsL p ks
def colsL (p : Int → Prop) : List Ex → Prop
  | [] => True
  | x :: r => colsX p x ∧ colsL p r
end

theorem colsL_mem {p : Int → Prop} : ∀ {l : List Ex}, colsL p l → ∀ x ∈ l, colsX p x
  | y :: r, h, x, hx => by
    rcases List.mem_cons.1 hx with rfl | hx
    · exact h.1
    · exact colsL_mem h.2 x hx

theorem le_maxI (a b : Int) : a ≤ maxI a b ∧ b ≤ maxI a b := by
  unfold maxI
  by_cases h : a < b
  · rw [if_t h]; omega
  · rw [if_f h]; omega

mutual
theorem colsX_mono {p q : Int → Prop} (h : ∀ n, p n → q n) : ∀ x : Ex, colsX p x → colsX q x
  | .mk op _ _ _ _ _ num ks _ _, hx => ⟨fun e => h _ (hx.1 e), colsL_mono h ks hx.2⟩
theorem colsL_mono {p q : Int → Prop} (h : ∀ n, p n → q n) : ∀ l : List Ex, colsL p l → colsL q l
  | [], _ => trivial
  | x :: r, hx => ⟨colsX_mono h x hx.1, colsL_mono h r hx.2⟩
end

theorem grL_ge : ∀ (l : List Ex) (a : Int), a ≤ grL l a
  | [], a => Int.le_refl _
  | x :: r, a => Int.le_trans (le_maxI a (grX x)).1 (by simp only [grL]; exact grL_ge r _)

mutual
theorem cols_gr : ∀ x : Ex, colsX (fun n => n ≤ grX x) x
  | .mk op _ _ _ _ _ num ks _ _ => by
    refine ⟨fun e => ?_, ?_⟩
    · simp only [grX]
      rw [if_pos e]
      exact Int.le_trans (le_maxI (-1) num).2 (grL_ge ks _)
    · simp only [grX]
      exact cols_grL ks _
theorem cols_grL : ∀ (l : List Ex) (a : Int), colsL (fun n => n ≤ grL l a) l
  | [], _ => trivial
  | x :: r, a => by
    refine ⟨colsX_mono (fun n h => ?_) x (cols_gr x), ?_⟩
    · simp only [grL]; exact Int.le_trans h (Int.le_trans (le_maxI a (grX x)).2 (grL_ge r _))
    · simp only [grL]; exact cols_grL r _
end

end Go.Proofs.YtiloinbeojampaaGreatDoor.E
