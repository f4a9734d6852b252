/-
  The statement RowBack of the program is proved: for every input that the row speaks of, the law answers true.
  Conditions: those that the statement's row prints, and no other. This text: plain laws of the pure functions.
-/
import Derived.Test.YtkeejnlicagjiaaRowBackP2
import Derived.Test.YtkeejnlicagjiaaRowBackP5
import Derived.Test.YtkeejnlicagjiaaRowBackP7
set_option linter.unusedVariables false
set_option linter.unusedSimpArgs false
/-! RowBack: what is written is read back. -/
namespace Go.Proofs.Ytkeejnlicagjiaa.E
open Go.Ev

theorem back_l2 (N : Nat) (R : Type) (k0 : List V → List UInt8 → List UInt8 → Int → Bool → Option R) (l : List V) (hl : l.length ≤ 9223372036854775807) (b1 b2 : List UInt8) (c : Int) :
    ∀ (d i : Nat) (r : Bool), i + d = l.length → ∀ m, d < m → law05_RowBack_l2 N R k0 m l b1 b2 c r (i : Int) = k0 l b1 b2 c (r && (l.drop i).all right)
  | d, i, r, hi, m, hm => by
    obtain ⟨m, rfl⟩ : ∃ k, m = k + 1 := ⟨m - 1, by omega⟩
    simp only [law05_RowBack_l2, law05_RowBack_l2B]
    by_cases hlt : i < l.length
    · rw [if_t (by omega), drop_step hlt, wrap_succ hlt hl]
      cases r with
      | true =>
        simp only [cond_true]
        rw [nth_lt hlt, bind_some', value_Right_eq, bind_some', back_l2 N R k0 l hl b1 b2 c (d - 1) (i + 1) _ (by omega) m (by omega)]
        simp only [Bool.true_and, Bool.false_and, List.all_cons]
      | false =>
        simp only [cond_false]
        rw [back_l2 N R k0 l hl b1 b2 c (d - 1) (i + 1) _ (by omega) m (by omega)]
        simp only [Bool.true_and, Bool.false_and, List.all_cons]
    · rw [if_f (by omega), show i = l.length by omega, List.drop_length]; simp

theorem back_l3 {N : Nat} (hN : 5000 < N) (R : Type) (k0 : List UInt8 → List UInt8 → Bool → Int → Bool → Option R) (k1 : List UInt8 → Bool → List UInt8 → Bool → Int → Bool → Option R) (ls : List V) (hok : okRow ls) (more : List UInt8) (x : Bool) (y : Int) (z : Bool) :
    ∀ (d i : Nat), i + d = (bytes ls).length → ∀ m, d < m → law05_RowBack_l3 N R k0 k1 m more (bytes ls) x y z (i : Int) = k0 more (bytes ls) x y z
  | d, i, hi, m, hm => by
    obtain ⟨m, rfl⟩ : ∃ k, m = k + 1 := ⟨m - 1, by omega⟩
    simp only [law05_RowBack_l3, law05_RowBack_l3B]
    have hb := bytes_len hok
    by_cases hlt : i < (bytes ls).length
    · rw [if_t (by omega), if_t (by omega), List.drop_zero, Int.toNat_natCast]
      rw [row_Decode_eq (by omega) (by simp; omega) (by simp; omega), bind_some']
      have hn : decR ((bytes ls).take i) = none := by
        cases h : decR ((bytes ls).take i) with
        | none => rfl
        | some l' =>
          obtain ⟨ho, e⟩ := decR_some h
          have e2 : bytes ls = bytes l' ++ (bytes ls).drop i := by rw [← e, List.take_append_drop]
          have e3 := congrArg List.length (bytes_pre hok ho e2)
          simp at e3; omega
      rw [hn]
      simp only [decide_true, Bool.not_true, cond_false]
      rw [wrap_succ hlt (by omega), back_l3 hN R k0 k1 ls hok more x y z (d - 1) (i + 1) (by omega) m (by omega)]
    · rw [if_f (by omega)]

theorem back_j1 (R : Type) (k0 : Bool → Option R) (l : List V) (hw : ∀ v, v ∈ l → WfV v) (hl : l.length ≤ 140737488351232) (more : List UInt8) (hm : more.length ≤ 100) : law05_RowBack_j1 big R k0 l more = k0 true := by
  have hN : 2000 < big := big_gt _ (by decide)
  have hN2 : 100000000000000000000 < big := big_gt _ (by decide)
  unfold law05_RowBack_j1
  rcases row_Encode_eq hN l hw with ⟨h16, hr, he⟩ | ⟨h, he⟩
  · have hok : okRow l := ⟨h16, fun v hv => ⟨hr v hv, hw v hv⟩⟩
    have hbl := bytes_len hok
    rw [he, bind_some', show (0 : Int) = ((0 : Nat) : Int) from rfl]
    rw [back_l2 big R _ l (by omega) _ _ _ l.length 0 _ (by omega) big (by omega)]
    rw [show UInt8.ofNat l.length :: encL l = bytes l from rfl, List.drop_zero, show ((0 : Nat) : Int) = 0 from rfl]
    simp only [decide_true, Bool.not_true, cond_false]
    rw [row_Decode_eq (by omega) (by omega) (by omega), decR_bytes hok, bind_some']
    simp only
    rw [same_eq l l (by omega) (by omega), bind_some']
    simp only [decide_true]
    have h3 := fun k0 k1 => back_l3 (N := big) (by omega) R k0 k1 l hok more (decide ((l.length : Int) ≤ 16) && l.all right) 0 true (bytes l).length 0 (by omega) big (by omega)
    rw [show ((0 : Nat) : Int) = 0 from rfl] at h3
    rw [h3]
    rw [cond_t (room_one (by simp; omega)), cond_t (room_one (by simp; omega)), List.nil_append]
    rw [row_Decode_eq (by omega) (by simp; omega) (by simp; omega), alive, bind_some']
    have hall : (decide ((l.length : Int) ≤ 16) && l.all right) = true := by
      rw [Bool.and_eq_true, List.all_eq_true]; exact ⟨decide_eq_true (by omega), hr⟩
    rw [hall]
    simp only [bind_some', decide_true, cond_true]
    cases more with
    | nil => rw [List.append_nil, decR_bytes hok]; rfl
    | cons c r =>
      cases h : decR (bytes l ++ c :: r) with
      | none =>
        simp only
        rw [dec_f (by decide), dec_f (by simp; omega)]; rfl
      | some l' =>
        obtain ⟨ho, e⟩ := decR_some h
        have := bytes_pre ho hok e.symm
        cases this
  · rw [he, bind_some', show (0 : Int) = ((0 : Nat) : Int) from rfl]
    rw [back_l2 big R _ l (by omega) _ _ _ l.length 0 _ (by omega) big (by omega)]
    rw [List.drop_zero, show ((0 : Nat) : Int) = 0 from rfl]
    have hall : (decide ((l.length : Int) ≤ 16) && l.all right) = false := by
      rcases h with h | ⟨v, hv, hr⟩
      · rw [dec_f (by omega)]; rfl
      · rw [Bool.and_eq_false_iff]; right; rw [List.all_eq_false]; exact ⟨v, hv, by rw [hr]; simp⟩
    rw [hall, alive]
    rfl

theorem RowBack_all (l : List V) (hw : ∀ v, v ∈ l → WfV v) (hl : l.length ≤ 140737488351232) (b more : List UInt8) : law05_RowBack big l b more = some (true, ()) := by
  have hN : 2000 < big := big_gt _ (by decide)
  have hN2 : 100000000000000000000 < big := big_gt _ (by decide)
  obtain ⟨f, hf⟩ := few_some big l (by omega) (by omega)
  unfold law05_RowBack law05_RowBack_cps
  rw [hf, bind_some']
  cases f with
  | false => rw [alive]; rfl
  | true =>
    simp only [Bool.not_true, cond_false]
    by_cases h5 : 5000 < (b.length : Int)
    · rw [if_t h5, alive]; rfl
    rw [if_f h5]
    by_cases h6 : 100 < (more.length : Int)
    · rw [if_t h6, alive]; rfl
    rw [if_f h6]
    unfold law05_RowBack_j0
    rw [row_Decode_eq (by omega) (by omega) (by omega), bind_some']
    cases h : decR b with
    | none =>
      simp only
      rw [if_f (by decide), back_j1 _ _ l hw hl more (by omega)]
    | some m =>
      obtain ⟨ho, e⟩ := decR_some h
      simp only [decide_true, cond_true]
      rcases row_Encode_eq hN m (fun v hv => (ho.2 v hv).2) with ⟨_, _, he⟩ | ⟨h' | ⟨v, hv, hr⟩, _⟩
      · rw [he, bind_some']
        simp only [decide_true, Bool.not_true, cond_false]
        rw [show UInt8.ofNat m.length :: encL m = b from e.symm]
        simp only [decide_true, Bool.not_true, cond_false]
        rw [back_j1 _ _ l hw hl more (by omega)]
      · exact absurd ho.1 (by omega)
      · rw [(ho.2 v hv).1] at hr; cases hr

theorem RowBack_pure : RowBack_Pure := by
  rintro ⟨l, b, more, _⟩ ⟨h1, h2, h3, _⟩
  obtain ⟨hw, hl⟩ := wf_list h1
  exact RowBack_all l hw hl b more

end Go.Proofs.Ytkeejnlicagjiaa.E
