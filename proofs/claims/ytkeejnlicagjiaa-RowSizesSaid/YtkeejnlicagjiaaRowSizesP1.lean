/-
  The statement RowSizes of the program is proved: for every input that the row speaks of, the law answers true.
  Conditions: those that the statement's row prints, and no other. This text: plain laws of the pure functions.
-/
import Derived.Test.YtkeejnlicagjiaaRowSizesP0
set_option linter.unusedVariables false
set_option linter.unusedSimpArgs false
/-! RowSizes: how long a row is. -/
namespace Go.Proofs.Ytkeejnlicagjiaa.E
open Go.Ev

theorem few_loop (N : Nat) (R : Type) (k0 : Option R) (k1 : Bool → Option R) (l : List V) (hl : l.length ≤ 9223372036854775807) :
    ∀ (d i : Nat), i + d = l.length → ∀ m, d < m → law05_few_l0 N R k0 k1 m l (i : Int) = k0 ∨ law05_few_l0 N R k0 k1 m l (i : Int) = k1 false
  | d, i, hi, m, hm => by
    obtain ⟨m, rfl⟩ : ∃ k, m = k + 1 := ⟨m - 1, by omega⟩
    simp only [law05_few_l0, law05_few_l0B]
    by_cases hlt : i < l.length
    · rw [if_t (by omega)]
      by_cases h20 : i = 20
      · rw [if_t (by omega)]; exact .inr rfl
      · rw [if_f (by omega), nth_lt hlt, bind_some']
        by_cases h5 : 500 < (l[i].2.2.1.length : Int)
        · rw [if_t h5]; exact .inr rfl
        · rw [if_f h5, wrap_succ hlt hl]
          exact few_loop N R k0 k1 l hl (d - 1) (i + 1) (by omega) m (by omega)
    · rw [if_f (by omega)]; exact .inl rfl

theorem few_some (N : Nat) (l : List V) (hl : l.length < N) (h2 : l.length ≤ 9223372036854775807) : ∃ b, law05_few N l = some (b, ()) := by
  unfold law05_few law05_few_cps
  rcases few_loop N _ (some (true, ())) (fun v2 => some (v2, ())) l h2 l.length 0 (by omega) N hl with h | h
  · exact ⟨true, h⟩
  · exact ⟨false, h⟩

theorem sizes_loop {N : Nat} (hN : 20 < N) (R : Type) (k0 : List V → List UInt8 → Int → Option R) (l : List V) (b : List UInt8) (hw : ∀ v, v ∈ l → WfV v) (hr : ∀ v, v ∈ l → right v = true) (hl : l.length ≤ 1000) :
    ∀ (d i n : Nat), i + d = l.length → n ≤ 300000000 - 300 * d → ∀ m, d < m → law05_RowSizes_l0 N R k0 m l b (n : Int) (i : Int) = k0 l b ((n + (encL (l.drop i)).length : Nat) : Int)
  | d, i, n, hi, hn, m, hm => by
    obtain ⟨m, rfl⟩ : ∃ k, m = k + 1 := ⟨m - 1, by omega⟩
    simp only [law05_RowSizes_l0, law05_RowSizes_l0B]
    by_cases hlt : i < l.length
    · rw [if_t (by omega), nth_lt hlt, bind_some']
      have hin : l[i] ∈ l := List.getElem_mem hlt
      have hwv := hw _ hin
      have hrv := hr _ hin
      rw [drop_step hlt]
      generalize l[i] = v at *
      obtain ⟨d, rfl⟩ : ∃ k, d = k + 1 := ⟨d - 1, by omega⟩
      have hol := own_len hrv hwv
      have ht := right_text hrv
      have next : ∀ q : Int, q = ((n + (encV v).length : Nat) : Int) → law05_RowSizes_l0 N R k0 m l b q (IntKind.wrap .i64 ((i : Int) + 1)) = k0 l b ((n + (encL (v :: l.drop (i + 1))).length : Nat) : Int) := by
        intro q hq
        subst hq
        have hvl := encV_len hrv hwv
        rw [wrap_succ hlt (by omega), sizes_loop hN R k0 l b hw hr hl d (i + 1) _ (by omega) (by omega) m (by omega)]
        simp [encL, Nat.add_assoc]
      have he : (encV v).length = 1 + (own v).length := by simp [encV]; omega
      by_cases h1 : v.1 = 1
      · rw [if_t h1]
        have : (own v).length = 1 := by unfold own; rw [if_pos h1]; rfl
        exact next _ (by rw [wrap_i64_id (x := (n : Int) + 1) (by omega) (by omega), wrap_i64_id (by omega) (by omega)]; omega)
      · rw [if_f h1]
        by_cases h2 : v.1 = 2
        · have hs : own v = short (zz v.2.1) := by unfold own; rw [if_neg h1, if_pos (.inl h2)]
          rw [if_t h2, bind_some', row_Short_eq hN hwv.1 hwv.2, bind_some']
          dsimp only
          rw [hs] at hol he
          exact next _ (by rw [wrap_i64_id (x := (n : Int) + 1) (by omega) (by omega), wrap_i64_id (by omega) (by omega)]; omega)
        · rw [if_f h2]
          by_cases h3 : v.1 = 3
          · have hs : own v = short (zz v.2.1) := by unfold own; rw [if_neg h1, if_pos (.inr h3)]
            rw [if_t h3, bind_some', row_Short_eq hN hwv.1 hwv.2, bind_some']
            dsimp only
            rw [hs] at hol he
            exact next _ (by rw [wrap_i64_id (x := (n : Int) + 1) (by omega) (by omega), wrap_i64_id (by omega) (by omega)]; omega)
          · rw [if_f h3]
            have five : ∀ (_ : v.1 = 4 ∨ v.1 = 5), own v = short (zz (v.2.2.1.length : Int)) ++ v.2.2.1 := fun h => by unfold own; rw [if_neg h1, if_neg (by omega), if_pos h]
            by_cases h4 : v.1 = 4
            · have hs := five (.inl h4)
              rw [if_t h4, bind_some', row_Short_eq hN (by omega) (by omega), bind_some', bind_some']
              dsimp only
              rw [hs, List.length_append] at hol he
              exact next _ (by rw [wrap_i64_id (x := (n : Int) + 1) (by omega) (by omega), wrap_i64_id (x := (n : Int) + 1 + _) (by omega) (by omega), wrap_i64_id (by omega) (by omega)]; omega)
            · rw [if_f h4]
              by_cases h5 : v.1 = 5
              · have hs := five (.inr h5)
                rw [if_t h5, bind_some', row_Short_eq hN (by omega) (by omega), bind_some', bind_some']
                dsimp only
                rw [hs, List.length_append] at hol he
                exact next _ (by rw [wrap_i64_id (x := (n : Int) + 1) (by omega) (by omega), wrap_i64_id (x := (n : Int) + 1 + _) (by omega) (by omega), wrap_i64_id (by omega) (by omega)]; omega)
              · rw [if_f h5]
                have : (own v).length = 0 := by unfold own; rw [if_neg h1, if_neg (by omega), if_neg (by omega)]; rfl
                exact next _ (by rw [wrap_i64_id (by omega) (by omega)]; omega)
    · have : i = l.length := by omega
      rw [if_f (by omega), this, List.drop_length]; simp [encL]

theorem wf_list {l : List V} (h : Wf (.slice (.pair (.int .i64) (.pair (.int .i64) (.pair .str .unit)))) l) : (∀ v, v ∈ l → WfV v) ∧ l.length ≤ 140737488351232 := by
  obtain ⟨h1, h2⟩ := h
  simp only [Ty.bytes, IntKind.bits] at h1
  refine ⟨fun v hv => ?_, by omega⟩
  have := (h2 v hv).2.1
  exact this

theorem RowSizes_pure : RowSizes_Pure := by
  rintro ⟨l, _⟩ ⟨hx, _⟩
  obtain ⟨hw, hl⟩ := wf_list hx
  dsimp only at hw hl ⊢
  obtain ⟨b, hb⟩ := few_some big l (big_gt _ (by omega)) (by omega)
  unfold law05_RowSizes law05_RowSizes_cps
  rw [hb, bind_some']
  rcases row_Encode_eq (big_gt 2000 (by decide)) l hw with ⟨h16, hr, he⟩ | ⟨_, he⟩
  · rw [he, bind_some']
    cases b with
    | false => simp only [alive, Bool.not_false, cond_true, bind_some']
    | true =>
      simp only [alive, Bool.not_true, cond_false, bind_some', decide_true]
      have h := sizes_loop (big_gt 20 (by decide)) _ (fun (v6 : List V) (v7 : List UInt8) (v8 : Int) => (bif true then bif decide ((v7.length : Int) = v8) then
            (nth v7 0).bind fun v10 => some (decide (IntKind.wrap IntKind.i64 (v10.toNat : Int) = (v6.length : Int)), ())
          else some (false, ()) else some (false, ()) : Option (Bool × Unit))) l (UInt8.ofNat l.length :: encL l) hw hr (by omega) l.length 0 1 (by omega) (by omega) big (big_gt _ (by omega))
      refine h.trans ?_
      have h1 : (((UInt8.ofNat l.length :: encL l).length : Nat) : Int) = ((1 + (encL (l.drop 0)).length : Nat) : Int) := by simp; omega
      have h0 : nth (UInt8.ofNat l.length :: encL l) 0 = some (UInt8.ofNat l.length) := rfl
      have h2 : (UInt8.ofNat l.length).toNat = l.length := by simp; omega
      simp only [cond_true]
      rw [if_t h1, h0, bind_some', h2, wrap_i64_id (by omega) (by omega)]
      simp
  · rw [he, bind_some']
    cases b <;> simp [alive]

end Go.Proofs.Ytkeejnlicagjiaa.E
