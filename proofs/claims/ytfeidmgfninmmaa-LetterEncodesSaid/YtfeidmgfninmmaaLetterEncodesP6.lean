/-
  The statement LetterEncodes of the program is proved: for every input that the row speaks of, the law answers true.
  Conditions: those that the statement's row prints, and no other. This text: plain laws of the pure functions.
-/
import Derived.Test.YtfeidmgfninmmaaLetterEncodesP5
set_option linter.unusedVariables false
set_option linter.unusedSimpArgs false
/-! The document's rows of bytes. -/
namespace Go.Proofs.Ytfeidmgfninmmaa.E
open Go.Ev

theorem ref_Right_eq (N : Nat) (v : V) : ref02_Right N v.1 v.2.1 v.2.2.1 = some (right v, ()) := by
  unfold ref02_Right ref02_Right_cps right
  obtain ⟨k, n, s, _⟩ := v
  simp only
  by_cases h1 : k = 1
  · subst h1
    by_cases n1 : n = 1
    · subst n1; simp
    · by_cases n0 : n = 0
      · subst n0; simp
      · simp [n1, n0]
  · by_cases h0 : k = 0
    · subst h0
      by_cases n0 : n = 0 <;> simp [n0]
    · by_cases h2 : k = 2
      · subst h2; simp
      · by_cases h3 : k = 3
        · subst h3; simp
        · by_cases h4 : k = 4
          · subst h4
            by_cases n0 : n = 0
            · simp [n0]; omega
            · simp [n0]
          · by_cases h5 : k = 5
            · subst h5
              by_cases n0 : n = 0
              · simp [n0]; omega
              · simp [n0]
            · simp [h0, h1, h2, h3, h4, h5]

theorem ref_Encode_loop {N : Nat} (hN : 20 < N) (R : Type) (k0 : List UInt8 → Option R) (k1 : Int → List UInt8 → Option R) (l : List V) (hw : ∀ v, v ∈ l → WfV v) (hl : l.length ≤ 1000) :
    ∀ (d i : Nat) (out : List UInt8), i + d = l.length → out.length ≤ 300000000 - 300 * d → ∀ m, d < m →
      ((∀ v, v ∈ l.drop i → right v = true) ∧ ref05_Encode_l0 N R k0 k1 m l out (i : Int) = k0 (out ++ encL (l.drop i))) ∨
      ((∃ v, v ∈ l.drop i ∧ right v = false) ∧ ∃ o, ref05_Encode_l0 N R k0 k1 m l out (i : Int) = k1 51 o)
  | d, i, out, hi, ho, m, hm => by
    obtain ⟨m, rfl⟩ : ∃ k, m = k + 1 := ⟨m - 1, by omega⟩
    simp only [ref05_Encode_l0, ref05_Encode_l0B]
    by_cases hlt : i < l.length
    · rw [if_t (by omega), nth_lt hlt, bind_some', ref_Right_eq, bind_some']
      have hin : l[i] ∈ l := List.getElem_mem hlt
      have hwv := hw _ hin
      rw [drop_step hlt]
      generalize l[i] = v at *
      simp only
      by_cases hr : right v = true
      · obtain ⟨d, rfl⟩ : ∃ k, d = k + 1 := ⟨d - 1, by omega⟩
        have hk := right_kind hr
        have ht := right_text hr
        have hol := own_len hr hwv
        have next : ∀ o : List UInt8, o = out ++ encV v →
            ((∀ x, x ∈ v :: l.drop (i + 1) → right x = true) ∧ ref05_Encode_l0 N R k0 k1 m l o (IntKind.wrap .i64 ((i : Int) + 1)) = k0 (out ++ encL (v :: l.drop (i + 1)))) ∨
            ((∃ x, x ∈ v :: l.drop (i + 1) ∧ right x = false) ∧ ∃ o', ref05_Encode_l0 N R k0 k1 m l o (IntKind.wrap .i64 ((i : Int) + 1)) = k1 51 o') := by
          intro o ho'
          subst ho'
          rw [wrap_succ hlt (by omega)]
          have hvl := encV_len hr hwv
          rcases ref_Encode_loop hN R k0 k1 l hw hl d (i + 1) (out ++ encV v) (by omega) (by simp; omega) m (by omega) with ⟨h1, h2⟩ | ⟨⟨x, h1, h1'⟩, o', h2⟩
          · refine .inl ⟨fun x hx => ?_, ?_⟩
            · rcases List.mem_cons.1 hx with rfl | hx
              · exact hr
              · exact h1 x hx
            · rw [h2]; simp [encL, List.append_assoc]
          · exact .inr ⟨⟨x, List.mem_cons_of_mem _ h1, h1'⟩, o', h2⟩
        rw [cond_f (by simp [hr]), kind_byte hk, cond_t (room_one (by simp; omega))]
        by_cases h1 : v.1 = 1
        · have hb := right_bool hr h1
          rw [if_t h1, cond_t (room_one (by simp; omega))]
          refine next _ ?_
          unfold encV own
          rw [if_pos h1, wrap_u8_id (by omega) (by omega)]; simp
        · rw [if_f h1]
          by_cases h2 : v.1 = 2
          · have hs : own v = short (zz v.2.1) := by unfold own; rw [if_neg h1, if_pos (.inl h2)]
            rw [if_t h2, ref_Short_eq hN hwv.1 hwv.2, bind_some']
            rw [hs] at hol
            rw [cond_t (room_one (by simp; omega))]
            exact next _ (by unfold encV; rw [hs]; simp)
          · rw [if_f h2]
            by_cases h3 : v.1 = 3
            · have hs : own v = short (zz v.2.1) := by unfold own; rw [if_neg h1, if_pos (.inr h3)]
              rw [if_t h3, ref_Short_eq hN hwv.1 hwv.2, bind_some']
              rw [hs] at hol
              rw [cond_t (room_one (by simp; omega))]
              exact next _ (by unfold encV; rw [hs]; simp)
            · rw [if_f h3]
              by_cases h4 : v.1 = 4
              · have hs : own v = short (zz (v.2.2.1.length : Int)) ++ v.2.2.1 := by unfold own; rw [if_neg h1, if_neg (by omega), if_pos (.inl h4)]
                rw [if_t h4, ref_Short_eq hN (by omega) (by omega), bind_some']
                rw [hs] at hol
                simp only [List.length_append] at hol
                rw [cond_t (room_one (by simp; omega)), cond_t (room_one (by simp; omega))]
                exact next _ (by unfold encV; rw [hs]; simp)
              · rw [if_f h4]
                by_cases h5 : v.1 = 5
                · have hs : own v = short (zz (v.2.2.1.length : Int)) ++ v.2.2.1 := by unfold own; rw [if_neg h1, if_neg (by omega), if_pos (.inr h5)]
                  rw [if_t h5, ref_Short_eq hN (by omega) (by omega), bind_some']
                  rw [hs] at hol
                  simp only [List.length_append] at hol
                  rw [cond_t (room_one (by simp; omega)), cond_t (room_one (by simp; omega))]
                  exact next _ (by unfold encV; rw [hs]; simp)
                · rw [if_f h5]
                  exact next _ (by unfold encV own; rw [if_neg h1, if_neg (by omega), if_neg (by omega)])
      · rw [cond_t (by simp [hr])]
        exact .inr ⟨⟨v, by simp, by simpa using hr⟩, _, rfl⟩
    · have : i = l.length := by omega
      rw [if_f (by omega)]
      refine .inl ⟨fun v hv => ?_, ?_⟩
      · rw [this, List.drop_length] at hv; simp at hv
      · rw [this, List.drop_length]; simp [encL]

/-- A row's bytes, where it has any: the document's. -/
theorem ref_Encode_eq {N : Nat} (hN : 2000 < N) (l : List V) (hw : ∀ v, v ∈ l → WfV v) :
    (l.length ≤ 16 ∧ (∀ v, v ∈ l → right v = true) ∧ ref05_Encode N l = some (UInt8.ofNat l.length :: encL l, (0, ()))) ∨
    ((16 < l.length ∨ ∃ v, v ∈ l ∧ right v = false) ∧ ref05_Encode N l = some ([], (51, ()))) := by
  unfold ref05_Encode ref05_Encode_cps
  by_cases h : l.length ≤ 16
  · rw [if_f (by omega), wrap_u8_id (by omega) (by omega)]
    rcases ref_Encode_loop (N := N) (by omega) _ (fun v2 => (fun a0 a1 => some (a0, (a1, ()))) v2 0) (fun v3 v4 => ((fun a0 a1 => some (a0, (a1, ()))) [] v3 : Option (List UInt8 × Int × Unit))) l hw (by omega) l.length 0 [UInt8.ofNat (Int.toNat (l.length : Int))] (by omega) (by simp; omega) N (by omega) with ⟨h1, h2⟩ | ⟨⟨v, h1, h1'⟩, o, h2⟩
    · refine .inl ⟨h, by simpa using h1, ?_⟩
      refine h2.trans ?_
      simp
    · exact .inr ⟨.inr ⟨v, by simpa using h1, h1'⟩, h2⟩
  · exact .inr ⟨.inl (by omega), by rw [if_t (by omega)]⟩


end Go.Proofs.Ytfeidmgfninmmaa.E
