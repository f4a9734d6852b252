/-
  The statement RowNumbers of the program is proved: for every input that the row speaks of, the law answers true.
  Conditions: those that the statement's row prints, and no other. This text: plain laws of the pure functions.
-/
import Derived.Test.YtkeejnlicagjiaaRowNumbersP1
set_option linter.unusedVariables false
set_option linter.unusedSimpArgs false
/-! RowNumbers: numbers there and back. -/
namespace Go.Proofs.Ytkeejnlicagjiaa.E
open Go.Ev

theorem wf_i64 {n : Int} (h : Wf (.int .i64) n) : -9223372036854775808 ≤ n ∧ n ≤ 9223372036854775807 := h

theorem wf_bytes {b : List UInt8} (h : Wf (.slice .byte) b) : b.length ≤ 140737488351232 := by
  have := h.1
  simp only [Ty.bytes] at this
  omega

theorem rd_take {u i : Nat} (h : i < (short u).length) : rd ((short u).take i) = none := by
  cases hr : rd ((short u).take i) with
  | none => rfl
  | some p =>
    exfalso
    obtain ⟨u', k'⟩ := p
    have hk := rd_len hr
    obtain ⟨h1, h2⟩ := rd_some _ _ _ hr
    have h3 := rd_short [] u
    rw [List.append_nil, ← List.take_append_drop i (short u), h1, List.append_assoc, rd_short] at h3
    simp only [Option.some.injEq, Prod.mk.injEq] at h3
    obtain ⟨rfl, _⟩ := h3
    simp at hk; omega

theorem short_mono : ∀ (v u : Nat), u ≤ v → (short u).length ≤ (short v).length := by
  intro v
  induction v using Nat.strongRecOn with
  | ind v ih =>
    intro u h
    by_cases h7 : v ≤ 127
    · rw [short_last h7, short_last (by omega)]; simp
    · by_cases h8 : u ≤ 127
      · rw [short_last h8]
        have := List.length_pos_iff.2 (short_ne v)
        simp; omega
      · rw [short_step h7, short_step h8]
        have := ih (v / 128) (by omega) (u / 128) (by omega)
        simpa using this

theorem numbers_loop (N : Nat) (R : Type) (k0 : Int → Int → (List UInt8) → Int → Int → Bool → Option R) (k1 : Int → Int → Bool → (List UInt8) → Int → Int → Bool → Option R) (n m : Int) (u : Nat) (x k : Int) (ok : Bool)
    (hl : (short u).length ≤ 10) (hN : 20 < N) : ∀ (d i : Nat), i + d = (short u).length → ∀ f, d < f → law05_RowNumbers_l0 N R k0 k1 f n m (short u) x k ok (i : Int) = k0 n m (short u) x k ok
  | d, i, hd, f, hf => by
    obtain ⟨f, rfl⟩ : ∃ k, f = k + 1 := ⟨f - 1, by omega⟩
    simp only [law05_RowNumbers_l0, law05_RowNumbers_l0B]
    by_cases hlt : i < (short u).length
    · rw [if_t (by omega), if_t (by omega), Int.toNat_natCast, List.drop_zero, row_Long_eq (by simp; omega) (by simp; omega), bind_some']
      have : (longS ((short u).take i)).2.2.1 = false := by unfold longS; rw [rd_take hlt]
      rw [this, wrap_succ hlt (by omega)]
      exact numbers_loop N R k0 k1 n m u x k ok hl hN (d - 1) (i + 1) (by omega) f (by omega)
    · rw [if_f (by omega)]

theorem RowNumbers_all (n m : Int) (more : List UInt8) (hn : -9223372036854775808 ≤ n ∧ n ≤ 9223372036854775807) (hm : -9223372036854775808 ≤ m ∧ m ≤ 9223372036854775807) (hb : more.length ≤ 140737488351232) :
    law05_RowNumbers big n m more = some (true, ()) := by
  unfold law05_RowNumbers law05_RowNumbers_cps
  by_cases h100 : 100 < (more.length : Int)
  · rw [if_t h100, alive, bind_some']
  · have hzn := zz_lt hn.1 hn.2
    have hzm := zz_lt hm.1 hm.2
    have hln := short_len10 hzn
    have hlm := short_len10 hzm
    have hpos := List.length_pos_iff.2 (short_ne (zz n))
    rw [if_f h100, row_Short_eq (big_gt _ (by decide)) hn.1 hn.2, bind_some']
    dsimp only
    rw [cond_t (room_one (by simp; omega)), cond_t (room_one (by simp; omega)), List.nil_append, row_Long_eq (by simp; omega) (big_gt _ (by simp; omega)), bind_some']
    have hlong : longS (short (zz n) ++ more) = (n, (((short (zz n)).length : Int), (true, ()))) := by
      unfold longS
      rw [rd_short]
      simp only
      rw [if_pos hzn, unzz_zz]
    rw [hlong]
    dsimp only
    refine (numbers_loop big _ _ _ n m (zz n) n _ true hln (big_gt _ (by decide)) (short (zz n)).length 0 (by omega) big (big_gt _ (by omega))).trans ?_
    rw [row_Short_eq (big_gt _ (by decide)) hm.1 hm.2, bind_some']
    have a1 : 1 ≤ ((short (zz n)).length : Int) := by omega
    have a2 : ((short (zz n)).length : Int) ≤ 10 := by omega
    have mono : zz n ≤ zz m → ((short (zz n)).length : Int) ≤ ((short (zz m)).length : Int) := fun h => by have := short_mono _ _ h; omega
    by_cases h0 : 0 ≤ n
    · have hneg : ¬ n < 0 := by omega
      by_cases hnm : n ≤ m
      · have := mono (by unfold zz; rw [if_pos h0, if_pos (by omega)]; omega)
        simp [h0, hnm, alive, a1, a2, this]
      · simp [h0, hnm, hneg, alive, a1, a2]
    · have hneg : n < 0 := by omega
      by_cases hnm : m ≤ n
      · have := mono (by unfold zz; rw [if_neg h0, if_neg (by omega)]; omega)
        simp [h0, hnm, hneg, alive, a1, a2, this]
      · simp [h0, hnm, hneg, alive, a1, a2]

theorem RowNumbers_pure : RowNumbers_Pure := fun x hx => RowNumbers_all x.1 x.2.1 x.2.2.1 (wf_i64 hx.1) (wf_i64 hx.2.1) (wf_bytes hx.2.2.1)

end Go.Proofs.Ytkeejnlicagjiaa.E
