/-
  Plain laws of the pure functions.
  Conditions: those that each statement prints, and no other.
-/
import Derived.Test.YtmpglmalfkkokaaGreatDoorPRefGuessP
set_option linter.unusedVariables false
set_option linter.unusedSimpArgs false
/-! Reading, as the document has it. -/
namespace Go.Proofs.YtmpglmalfkkokaaGreatDoor.E
open Go.Ev

theorem sgd_of {n : Int} (hn : I64 n) : n.natAbs ≤ bnd (decide (n < 0)) ∧ sgd (decide (n < 0)) n.natAbs = n := by
  obtain ⟨h1, h2⟩ := hn
  unfold bnd sgd
  by_cases h : n < 0
  · simp only [h, decide_true, if_true]; omega
  · simp only [h, decide_false]; simp; omega

theorem figs_one {N : Nat} (hN : 1000000 < N) {n : Int} (hn : I64 n) {F : Bs} (hF : F.length ≤ 1000) (hf : ∀ c ∈ F, isFig c) (h0 : F ≠ []) (hv : digV 0 F = n.natAbs) : ref02_figures N F (decide (n < 0)) = some (n, (true, ())) := by
  obtain ⟨r, ok, h1, _, h3⟩ := figures_ex hN F hF (decide (n < 0))
  obtain ⟨b1, b2⟩ := sgd_of hn
  obtain ⟨rfl, rfl⟩ := h3 hf h0 (by rw [hv]; exact b1)
  rw [h1, hv, b2]

/-- The last part of the document's reading: a numeral, or nothing. -/
theorem num_ex {N : Nat} (hN : 1000000 < N) {R : Type} {k0 : Int → Int → Bs → Option R} {neg : Bool} {t : Bs} (ht : t.length ≤ 1000) {a b : Int} {c : Bs} : ∃ K n, ref02_guess_j6 N R k0 neg t a b c = k0 K n [] ∧ I64 n ∧
    (∀ n' : Int, I64 n' → neg = decide (n' < 0) → t ≠ [] → (∀ c ∈ t, isFig c) → digV 0 t = n'.natAbs → K = 2 ∧ n = n') ∧
    (∀ (n' : Int) (A B : Bs), I64 n' → neg = decide (n' < 0) → t = A ++ 46 :: B → A ≠ [] → B.length = 4 → (∀ c ∈ A ++ B, isFig c) → digV 0 (A ++ B) = n'.natAbs → K = 3 ∧ n = n') := by
  have one : I64 1 := ⟨by decide, by decide⟩
  unfold ref02_guess_j6
  have hw : IntKind.wrap .i64 ((t.length : Int) - 5) = (t.length : Int) - 5 := wrap_i64_id (by omega) (by omega)
  rw [hw]
  -- no point at its place: all of it is figures
  have whole : ∀ (hno : ∀ A B : Bs, t = A ++ 46 :: B → A ≠ [] → B.length = 4 → False), ∃ K n, (Option.bind (ref02_figures N t neg) fun v112 => bif v112.2.1 then k0 2 v112.1 [] else k0 0 1 []) = k0 K n [] ∧ I64 n ∧
      (∀ n' : Int, I64 n' → neg = decide (n' < 0) → t ≠ [] → (∀ c ∈ t, isFig c) → digV 0 t = n'.natAbs → K = 2 ∧ n = n') ∧
      (∀ (n' : Int) (A B : Bs), I64 n' → neg = decide (n' < 0) → t = A ++ 46 :: B → A ≠ [] → B.length = 4 → (∀ c ∈ A ++ B, isFig c) → digV 0 (A ++ B) = n'.natAbs → K = 3 ∧ n = n') := by
    intro hno
    obtain ⟨r, ok, h1, h2, h3⟩ := figures_ex hN t ht neg
    rw [h1, bind_some']
    dsimp only
    cases ok with
    | true =>
      refine ⟨2, r, rfl, h2, fun n' hn' hneg h0 hf hv => ?_, fun n' A B _ _ h5 h6 h7 => (hno A B h5 h6 h7).elim⟩
      obtain ⟨b1, b2⟩ := sgd_of hn'
      obtain ⟨_, h4⟩ := h3 hf h0 (by rw [hv, hneg]; exact b1)
      refine ⟨rfl, ?_⟩
      rw [h4, hv, hneg, b2]
    | false =>
      refine ⟨0, 1, rfl, one, fun n' hn' hneg h0 hf hv => ?_, fun n' A B _ _ h5 h6 h7 => (hno A B h5 h6 h7).elim⟩
      obtain ⟨b1, b2⟩ := sgd_of hn'
      obtain ⟨h4, _⟩ := h3 hf h0 (by rw [hv, hneg]; exact b1)
      cases h4
  by_cases h5 : 5 < t.length
  · have hk : (t.length : Int) - 5 = ((t.length - 5 : Nat) : Int) := by omega
    have hkl : t.length - 5 < t.length := by omega
    rw [if_t (by omega), hk, nth_lt hkl, bind_some']
    have split : ∀ A B : Bs, t = A ++ 46 :: B → B.length = 4 → A = t.take (t.length - 5) ∧ B = t.drop (t.length - 5 + 1) ∧ t[t.length - 5] = 46 := by
      intro A B e hB
      have hA : t.length - 5 = A.length := by rw [e]; simp; omega
      refine ⟨?_, ?_, ?_⟩
      · rw [hA, e]; simp
      · rw [hA, e]; simp
      · have : t[t.length - 5]? = some 46 := by rw [hA, e]; simp
        rw [List.getElem?_eq_getElem hkl] at this
        exact Option.some.inj this
    unfold ref02_guess_j7
    by_cases hp : t[t.length - 5] = 46
    · rw [show decide ((t[t.length - 5].toNat : Int) = 46) = true from decide_eq_true (by rw [hp]; rfl)]
      rw [cond_t rfl]
      unfold ref02_guess_r8
      have w1 : IntKind.wrap .i64 (((t.length - 5 : Nat) : Int) + 1) = ((t.length - 5 + 1 : Nat) : Int) := wrap_succ hkl (by omega)
      rw [w1, Int.toNat_natCast, Int.toNat_natCast, List.take_length, List.drop_zero, if_t (by omega), if_t (by omega), cond_t (room_one (by simp; omega))]
      obtain ⟨r, ok, h1, h2, h3⟩ := figures_ex hN (t.take (t.length - 5) ++ t.drop (t.length - 5 + 1)) (by simp; omega) neg
      rw [h1, bind_some']
      dsimp only
      have nofig : (∀ c ∈ t, isFig c) → False := fun h => by
        have := h _ (List.getElem_mem hkl)
        rw [hp] at this
        exact absurd this.1 (by decide)
      have use : ∀ (n' : Int) (A B : Bs), I64 n' → neg = decide (n' < 0) → t = A ++ 46 :: B → A ≠ [] → B.length = 4 → (∀ c ∈ A ++ B, isFig c) → digV 0 (A ++ B) = n'.natAbs → ok = true ∧ r = n' := by
        intro n' A B hn' hneg e hA hB hf hv
        obtain ⟨eA, eB, _⟩ := split A B e hB
        rw [← eA, ← eB] at h3
        obtain ⟨b1, b2⟩ := sgd_of hn'
        obtain ⟨h4, h5⟩ := h3 hf (by intro h; exact hA (List.append_eq_nil_iff.1 h).1) (by rw [hv, hneg]; exact b1)
        exact ⟨h4, by rw [h5, hv, hneg, b2]⟩
      cases ok with
      | true => exact ⟨3, r, rfl, h2, fun _ _ _ _ hf _ => (nofig hf).elim, fun n' A B x1 x2 x3 x4 x5 x6 x7 => ⟨rfl, (use n' A B x1 x2 x3 x4 x5 x6 x7).2⟩⟩
      | false => exact ⟨0, 1, rfl, one, fun _ _ _ _ hf _ => (nofig hf).elim, fun n' A B x1 x2 x3 x4 x5 x6 x7 => by cases (use n' A B x1 x2 x3 x4 x5 x6 x7).1⟩
    · have hne : ¬ ((t[t.length - 5].toNat : Int) = 46) := fun e => hp (UInt8.toNat_inj.1 (by show t[t.length - 5].toNat = 46; omega))
      rw [show decide ((t[t.length - 5].toNat : Int) = 46) = false from decide_eq_false hne]
      rw [cond_f rfl]
      exact whole fun A B e _ hB => hp (split A B e hB).2.2
  · rw [if_f (by omega)]
    unfold ref02_guess_j7
    rw [cond_f rfl]
    exact whole fun A B e hA hB => by
      have := congrArg List.length e
      have := List.length_pos_iff.2 hA
      simp at *
      omega

/-- The shapes of right values' texts. -/
theorem txt_shape {k n : Int} {s : Bs} (hr : rightB k n s = true) :
    (k = 0 ∧ n = 0 ∧ s = [] ∧ txt k n s = [110, 117, 108, 108]) ∨ (k = 1 ∧ n = 0 ∧ s = [] ∧ txt k n s = [102, 97, 108, 115, 101]) ∨ (k = 1 ∧ n = 1 ∧ s = [] ∧ txt k n s = [116, 114, 117, 101]) ∨
    (k = 2 ∧ s = [] ∧ txt k n s = sgn n ++ Lib.decDigits n.natAbs) ∨ (k = 3 ∧ s = [] ∧ txt k n s = sgn n ++ (Lib.decDigits (n.natAbs / 10000) ++ 46 :: dgw 4 n.natAbs)) ∨
    (k = 4 ∧ n = 0 ∧ txt k n s = 39 :: (dbl s ++ [39])) ∨ (k = 5 ∧ n = 0 ∧ txt k n s = 120 :: 39 :: (hexs s ++ [39])) := by
  have hr0 := hr
  unfold txt
  rw [if_neg (by rw [hr]; simp)]
  unfold rightB at hr
  by_cases h1 : k = 1
  · rw [if_pos h1] at hr
    obtain ⟨h2 | h2, h3⟩ := of_decide_eq_true hr
    · exact .inr (.inr (.inl ⟨h1, h2, h3, by rw [if_neg (by omega), if_pos h1, if_pos h2]⟩))
    · exact .inr (.inl ⟨h1, h2, h3, by rw [if_neg (by omega), if_pos h1, if_neg (by omega)]⟩)
  · rw [if_neg h1] at hr
    by_cases h0 : k = 0
    · rw [if_pos h0] at hr
      obtain ⟨h2, h3⟩ := of_decide_eq_true hr
      exact .inl ⟨h0, h2, h3, by rw [if_pos h0]⟩
    · rw [if_neg h0] at hr
      rw [if_neg h0, if_neg h1]
      by_cases h2 : k = 2
      · rw [if_pos (.inl h2)] at hr
        exact .inr (.inr (.inr (.inl ⟨h2, of_decide_eq_true hr, by rw [if_pos h2, itoa_eq]⟩)))
      · by_cases h3 : k = 3
        · rw [if_pos (.inr h3)] at hr
          refine .inr (.inr (.inr (.inr (.inl ⟨h3, of_decide_eq_true hr, ?_⟩))))
          rw [if_neg h2, if_pos h3]
          unfold decT
          rw [dotted_split]
        · rw [if_neg (by omega)] at hr
          by_cases h4 : k = 4 ∨ k = 5
          · rw [if_pos h4] at hr
            obtain ⟨h5, h6⟩ := of_decide_eq_true hr
            rw [if_neg h2, if_neg h3]
            rcases h4 with h4 | h4
            · exact .inr (.inr (.inr (.inr (.inr (.inl ⟨h4, h5, by rw [if_neg (by omega)]⟩)))))
            · exact .inr (.inr (.inr (.inr (.inr (.inr ⟨h4, h5, by rw [if_pos h4]⟩)))))
          · rw [if_neg h4] at hr; cases hr

end Go.Proofs.YtmpglmalfkkokaaGreatDoor.E
