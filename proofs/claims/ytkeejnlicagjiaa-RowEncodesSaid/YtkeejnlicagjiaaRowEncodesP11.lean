/-
  The statement RowEncodes of the program is proved: for every input that the row speaks of, the law answers true.
  Conditions: those that the statement's row prints, and no other. This text: plain laws of the pure functions.
-/
import Derived.Test.YtkeejnlicagjiaaRowEncodesP2
import Derived.Test.YtkeejnlicagjiaaRowEncodesP5
import Derived.Test.YtkeejnlicagjiaaRowEncodesP10
set_option linter.unusedVariables false
set_option linter.unusedSimpArgs false
/-! RowEncodes: the program's rows of bytes are the document's. -/
namespace Go.Proofs.Ytkeejnlicagjiaa.E
open Go.Ev

theorem RowEncodes_all (l : List V) (hw : ∀ v, v ∈ l → WfV v) (hl : l.length ≤ 140737488351232) (b : List UInt8) : law05_RowEncodes big l b = some (true, ()) := by
  have hN : 2000 < big := big_gt _ (by decide)
  have hN2 : 100000000000000000000 < big := big_gt _ (by decide)
  obtain ⟨f, hf⟩ := few_some big l (by omega) (by omega)
  unfold law05_RowEncodes law05_RowEncodes_cps
  rw [hf, bind_some']
  cases f with
  | false => rw [alive]; rfl
  | true =>
    simp only [Bool.not_true, cond_false]
    by_cases h5 : 5000 < (b.length : Int)
    · rw [if_t h5, alive]; rfl
    rw [if_f h5, cond_t (room_one (by simp; omega)), cond_t (room_one (by simp; omega)), if_t (by simp; omega)]
    have hcut : List.drop 0 (List.take (Int.toNat (b.length : Int)) (([] ++ b) ++ [7])) = b := by simp
    rw [hcut, row_Decode_eq (by omega) (by omega) (by omega), ref_Decode_eq hN (by omega) (by omega), alive]
    have hlen : ∀ x, decR b = some x → x.length ≤ 16 := fun x hx => decR_len hx
    have he : row_Encode big l = ref05_Encode big l := by
      rcases row_Encode_eq hN l hw with ⟨h1, h2, e⟩ | ⟨h, e⟩ <;> rcases ref_Encode_eq hN l hw with ⟨h1', h2', e'⟩ | ⟨h', e'⟩
      · rw [e, e']
      · rcases h' with h' | ⟨v, hv, hr⟩
        · omega
        · rw [h2 v hv] at hr; cases hr
      · rcases h with h | ⟨v, hv, hr⟩
        · omega
        · rw [h2' v hv] at hr; cases hr
      · rw [e, e']
    obtain ⟨x, hx⟩ : ∃ x, ref05_Encode big l = some x := by
      rcases ref_Encode_eq hN l hw with ⟨_, _, e'⟩ | ⟨_, e'⟩ <;> exact ⟨_, e'⟩
    rw [he, hx]
    simp only [bind_some']
    cases h : decR b with
    | none =>
      simp only
      rw [same_eq [] [] (by simp) (by simp; omega)]
      simp
    | some m =>
      have := hlen m h
      simp only
      rw [same_eq m m (by omega) (by omega)]
      simp

theorem RowEncodes_pure : RowEncodes_Pure := by
  rintro ⟨l, b, _⟩ ⟨h1, h2, _⟩
  obtain ⟨hw, hl⟩ := wf_list h1
  exact RowEncodes_all l hw hl b

end Go.Proofs.Ytkeejnlicagjiaa.E
