/-
  The statement RowBack of the program is proved: for every input that the row speaks of, the law answers true.
  Conditions: those that the statement's row prints, and no other. This text: plain laws of the pure functions.
-/
import Derived.Test.YtkeejnlicagjiaaRowBackP4
set_option linter.unusedVariables false
set_option linter.unusedSimpArgs false
/-! Rows held against each other. -/
namespace Go.Proofs.Ytkeejnlicagjiaa.E
open Go.Ev

theorem v_eq (v w : V) : ((decide (v.1 = w.1)) && ((decide (v.2.1 = w.2.1)) && (decide (v.2.2.1 = w.2.2.1)))) = decide (v = w) := by
  obtain ⟨a, b, c, ⟨⟩⟩ := v
  obtain ⟨a', b', c', ⟨⟩⟩ := w
  simp only [Prod.mk.injEq, and_true, Bool.decide_and]

theorem same_loop (N : Nat) (R : Type) (k0 : Option R) (k1 : Bool → Option R) (l m : List V) (hl : l.length ≤ 9223372036854775807) (hm : l.length = m.length) :
    ∀ (d i : Nat), i + d = l.length → ∀ n, d < n → ref02_Same_l0 N R k0 k1 n l m (i : Int) = (if l.drop i = m.drop i then k0 else k1 false)
  | d, i, hi, n, hn => by
    obtain ⟨n, rfl⟩ : ∃ k, n = k + 1 := ⟨n - 1, by omega⟩
    simp only [ref02_Same_l0, ref02_Same_l0B]
    by_cases hlt : i < l.length
    · rw [if_t (by omega), nth_lt hlt, bind_some', nth_lt (show i < m.length by omega), bind_some', drop_step hlt, drop_step (show i < m.length by omega)]
      rw [v_eq]
      by_cases e : l[i] = m[i]'(by omega)
      · rw [dec_t e]
        simp only [Bool.not_true, cond_false]
        rw [wrap_succ hlt hl, same_loop N R k0 k1 l m hl hm (d - 1) (i + 1) (by omega) n (by omega)]
        simp only [List.cons.injEq, e, true_and]
      · rw [dec_f e]
        simp only [Bool.not_false, cond_true]
        rw [if_neg (by intro h; injection h; contradiction)]
    · rw [if_f (by omega), show i = l.length by omega, List.drop_length, hm, List.drop_length, if_pos rfl]

theorem same_eq {N : Nat} (l m : List V) (hl : l.length ≤ 9223372036854775807) (hN : l.length < N) : ref02_Same N l m = some (decide (l = m), ()) := by
  unfold ref02_Same ref02_Same_cps
  by_cases h : l.length = m.length
  · rw [dec_t (by omega)]
    simp only [Bool.not_true, cond_false]
    have := same_loop N _ (some (true, ())) (fun v3 => some (v3, ())) l m hl h l.length 0 (by omega) N hN
    rw [show ((0 : Nat) : Int) = 0 from rfl] at this
    rw [this, List.drop_zero, List.drop_zero]
    by_cases e : l = m
    · rw [if_pos e, dec_t e]
    · rw [if_neg e, dec_f e]
  · rw [dec_f (by omega)]
    simp only [Bool.not_false, cond_true]
    rw [dec_f (by intro e; exact h (by rw [e]))]

theorem decR_len {b : List UInt8} {l : List V} (h : decR b = some l) : l.length ≤ 16 := (decR_some h).1.1

theorem bytes_len {l : List V} (h : okRow l) : (bytes l).length ≤ 4000 := by
  have := encL_len (fun v hv => (h.2 v hv).1) (fun v hv => (h.2 v hv).2)
  have := h.1
  simp [bytes]; omega

theorem bytes_pre {l l' : List V} (h : okRow l) (h' : okRow l') {more : List UInt8} (e : bytes l = bytes l' ++ more) : more = [] := by
  have h1 := h.1
  have h2 := h'.1
  simp only [bytes, List.cons_append, List.cons.injEq] at e
  obtain ⟨e1, e2⟩ := e
  have e3 := congrArg UInt8.toNat e1
  have e4 : l.length = l'.length := by simp at e3; omega
  have p1 := pL_enc [] h.2
  have p2 := pL_enc more h'.2
  rw [List.append_nil, e4, e2, p2] at p1
  simpa using (congrArg (fun x => x.map Prod.snd) p1)

end Go.Proofs.Ytkeejnlicagjiaa.E
