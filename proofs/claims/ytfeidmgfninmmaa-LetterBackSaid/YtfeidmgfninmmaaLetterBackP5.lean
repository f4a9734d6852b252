/-
  The statement LetterBack of the program is proved: for every input that the row speaks of, the law answers true.
  Conditions: those that the statement's row prints, and no other. This text: plain laws of the pure functions.
-/
import Derived.Test.YtfeidmgfninmmaaLetterBackP2
set_option linter.unusedVariables false
set_option linter.unusedSimpArgs false
/-! No row's bytes begin another's. -/
namespace Go.Proofs.Ytfeidmgfninmmaa.E
open Go.Ev

theorem decR_len {b : List UInt8} {l : List V} (h : decR b = some l) : l.length ≤ 16 := (decR_some h).1.1

theorem bytes_len {l : List V} (h : okRow l) : (bytes l).length ≤ 4000 := by
  have := encL_len (fun v hv => (h.2 v hv).1) (fun v hv => (h.2 v hv).2)
  have := h.1
  simp [bytes]; omega

theorem bytes_pre {l l' : List V} (h : okRow l) (h' : okRow l') {more : List UInt8} (e : bytes l = bytes l' ++ more) : more = [] := by
  have h1 := h.1
  have h2 := h'.1
  simp only [bytes, List.cons_append, List.cons.injEq] at e
  obtain ⟨e1, e2⟩ := e
  have e3 := congrArg UInt8.toNat e1
  have e4 : l.length = l'.length := by simp at e3; omega
  have p1 := pL_enc [] h.2
  have p2 := pL_enc more h'.2
  rw [List.append_nil, e4, e2, p2] at p1
  simpa using (congrArg (fun x => x.map Prod.snd) p1)

end Go.Proofs.Ytfeidmgfninmmaa.E
