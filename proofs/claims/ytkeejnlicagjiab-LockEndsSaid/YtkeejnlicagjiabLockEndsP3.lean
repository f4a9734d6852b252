/-
  The statement LockEnds of the program is proved: for every input that the row speaks of, the law answers true.
  Conditions: those that the statement's row prints, and no other. This text: plain laws of the pure functions.
-/
import Derived.Test.YtkeejnlicagjiabLockEndsP2
set_option linter.unusedVariables false
set_option linter.unusedSimpArgs false
/-! Locks: what a transaction has been granted; lengths, and keys that can be copied. -/
namespace Go.Proofs.Ytkeejnlicagjiab.E
open Go.Ev

abbrev ActT := Int × (LkT × Unit)

def hadL (tx : Int) (y : LkT) : Bool := decide (y.1 = tx)

theorem granted_loop (N : Nat) (R : Type) (g w : List LkT) (hg : g.length ≤ 100000) (hf : ∀ x, x ∈ g → Fine x) (tx : Int) (k0 : List LkT → Option R) :
    ∀ (n i : Nat) (o : List LkT), g.length - i < n → i ≤ g.length → o.length ≤ i → lock_Locks_Granted_l0 N R g w k0 n tx o (g.length : Int) (i : Int) = k0 (o ++ (g.drop i).filter (hadL tx))
  | 0, i, o, h, _, _ => by omega
  | n + 1, i, o, h, hi, ho => by
    have step : lock_Locks_Granted_l0 N R g w k0 (n + 1) tx o (g.length : Int) (i : Int) = lock_Locks_Granted_l0B N R g w (lock_Locks_Granted_l0 N R g w k0 n) k0 tx o (g.length : Int) (i : Int) := rfl
    rw [step]
    unfold lock_Locks_Granted_l0B
    by_cases hil : i < g.length
    · rw [if_t (by omega), nth_lt hil, bind_some', Int.toNat_natCast, List.getElem?_eq_getElem hil, bind_some', wrap_succ hil (by omega), List.drop_eq_getElem_cons hil]
      cases hq : decide (g[i].1 = tx) with
      | true =>
        simp only [cond_true]
        rw [copied_eq N g[i] (hf _ (List.getElem_mem hil)), bind_some', cond_t (room_of (by simp; omega))]
        rw [List.filter_cons_of_pos (show hadL tx g[i] = true from hq), granted_loop N R g w hg hf tx k0 n (i + 1) _ (by omega) (by omega) (by simp; omega), List.append_assoc]
        rfl
      | false =>
        simp only [cond_false]
        rw [List.filter_cons_of_neg (show ¬ hadL tx g[i] = true by simp [hadL, of_decide_eq_false hq]), granted_loop N R g w hg hf tx k0 n (i + 1) _ (by omega) (by omega) (by omega)]
    · rw [if_f (by omega), List.drop_eq_nil_of_le (by omega), List.filter_nil, List.append_nil]

theorem granted_eq (tx : Int) (g w : List LkT) (hg : g.length ≤ 100000) (hf : ∀ x, x ∈ g → Fine x) : lock_Locks_Granted big tx g w = some (g.filter (hadL tx), ()) := by
  unfold lock_Locks_Granted lock_Locks_Granted_cps
  have := granted_loop big _ g w hg hf tx (fun v4 => some (v4, ())) big 0 [] (big_gt _ (by omega)) (by omega) (by simp)
  rw [List.drop_zero, List.nil_append] at this
  exact this

/-- All keys can be copied. -/
def FineL (l : List LkT) : Prop := ∀ x, x ∈ l → Fine x

theorem FineL.snoc {l : List LkT} {x : LkT} (h : FineL l) (hx : Fine x) : FineL (l ++ [x]) := by
  intro y hy
  rcases List.mem_append.1 hy with hy | hy
  · exact h y hy
  · rw [List.mem_singleton.1 hy]; exact hx

theorem askL_cases (g w : List LkT) (x : LkT) (P : List LkT → List LkT → Prop) (h0 : P g w) (h1 : P g (w ++ [x])) (h2 : P (g ++ [x]) w) : P (askL g w x).2.2.1 (askL g w x).2.2.2.1 := by
  unfold askL
  cases rightL x <;> cases waitsL w x.1 <;> cases coveredL g x <;> cases decide (1024 ≤ g.length + w.length) <;> cases (clashesL g x || clashesL w x) <;> first | exact h0 | exact h1 | exact h2

theorem askL_fine {g w : List LkT} {x : LkT} (hx : Fine x) (hg : FineL g) (hw : FineL w) : FineL (askL g w x).2.2.1 ∧ FineL (askL g w x).2.2.2.1 :=
  askL_cases g w x (fun g w => FineL g ∧ FineL w) ⟨hg, hw⟩ ⟨hg, hw.snoc hx⟩ ⟨hg.snoc hx, hw⟩

theorem askL_len (g w : List LkT) (x : LkT) : (askL g w x).2.2.1.length + (askL g w x).2.2.2.1.length ≤ g.length + w.length + 1 :=
  askL_cases g w x (fun g' w' => g'.length + w'.length ≤ g.length + w.length + 1) (by omega) (by simp; omega) (by simp; omega)

theorem short_some (N : Nat) (a : LkT) : ∃ b, law09_short N a.1 a.2.1 a.2.2.1 a.2.2.2.1 a.2.2.2.2.1 = some (b, ()) := by
  unfold law09_short law09_short_cps
  cases decide ((a.2.2.1.length : Int) ≤ 40) <;> cases decide ((a.2.2.2.1.length : Int) ≤ 40) <;> exact ⟨_, rfl⟩

theorem fine_of_wf {a : LkT} (h : Wf (.pair (.int .i64) (.pair .str (.pair (.slice .byte) (.pair (.slice .byte) (.pair (.int .i64) .unit))))) a) : Fine a := by
  have h1 := h.2.2.1.1
  have h2 := h.2.2.2.1.1
  simp only [Ty.bytes, Nat.mul_one] at h1 h2
  exact ⟨by omega, by omega⟩

theorem script_fine {s : List ActT} (h : Wf (.slice (.pair (.int .i64) (.pair (.pair (.int .i64) (.pair .str (.pair (.slice .byte) (.pair (.slice .byte) (.pair (.int .i64) .unit))))) .unit))) s) : ∀ a, a ∈ s → Fine a.2.1 := fun a ha => fine_of_wf (h.2 a ha).2.1

end Go.Proofs.Ytkeejnlicagjiab.E
