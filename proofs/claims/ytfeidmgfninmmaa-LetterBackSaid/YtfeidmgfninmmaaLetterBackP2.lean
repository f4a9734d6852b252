/-
  The statement LetterBack of the program is proved: for every input that the row speaks of, the law answers true.
  Conditions: those that the statement's row prints, and no other. This text: plain laws of the pure functions.
-/
import Derived.Test.YtfeidmgfninmmaaLetterBackP1
set_option linter.unusedVariables false
set_option linter.unusedSimpArgs false
/-! The row of bytes: what it is. -/
namespace Go.Proofs.Ytfeidmgfninmmaa.E
open Go.Ev

/-- The value that bytes begin with, and what is behind it. -/
def pV : List UInt8 → Option (V × List UInt8)
  | [] => none
  | c :: r =>
    if c.toNat = 0 then some ((0, (0, ([], ()))), r)
    else if c.toNat = 1 then (match r with
      | [] => none
      | x :: r' => if x.toNat ≤ 1 then some ((1, ((x.toNat : Int), ([], ()))), r') else none)
    else if c.toNat = 2 ∨ c.toNat = 3 then (match rd r with
      | some (u, k) => if u < 18446744073709551616 then some (((c.toNat : Int), (unzz u, ([], ()))), r.drop k) else none
      | none => none)
    else if c.toNat = 4 ∨ c.toNat = 5 then (match rd r with
      | some (u, k) => if u < 18446744073709551616 ∧ 0 ≤ unzz u ∧ unzz u ≤ ((r.drop k).length : Int) ∧ unzz u ≤ 200 then
          some (((c.toNat : Int), (0, ((r.drop k).take (unzz u).toNat, ()))), (r.drop k).drop (unzz u).toNat) else none
      | none => none)
    else none

theorem unit_eq (v : V) : v = (v.1, (v.2.1, (v.2.2.1, ()))) := rfl

theorem short_unzz {r : List UInt8} {u k : Nat} (h : rd r = some (u, k)) : r = short (zz (unzz u)) ++ r.drop k := by
  rw [zz_unzz]; exact (rd_some r u k h).1

theorem pV_some {b : List UInt8} {v : V} {r : List UInt8} (h : pV b = some (v, r)) : right v = true ∧ WfV v ∧ b = encV v ++ r := by
  cases b with
  | nil => cases h
  | cons c b =>
    have hc256 := c.toNat_lt
    have hcc : UInt8.ofNat c.toNat = c := UInt8.ofNat_toNat
    simp only [pV] at h
    split at h
    · rename_i h0
      cases h
      refine ⟨by simp [right], ⟨by decide, by decide⟩, ?_⟩
      have : c = UInt8.ofNat 0 := by rw [← h0]; exact hcc.symm
      rw [this]; rfl
    · split at h
      · rename_i h1
        cases b with
        | nil => cases h
        | cons x b =>
          dsimp only at h
          split at h
          · rename_i hx
            cases h
            refine ⟨by simp [right]; omega, ⟨by show _ ≤ (x.toNat : Int); omega, by show (x.toNat : Int) ≤ _; omega⟩, ?_⟩
            have : c = UInt8.ofNat 1 := by rw [← h1]; exact hcc.symm
            rw [this]
            simp [encV, own]
          · cases h
      · split at h
        · rename_i h23
          split at h
          · rename_i u k hrd
            split at h
            · rename_i hu
              cases h
              obtain ⟨hu1, hu2⟩ := unzz_in hu
              refine ⟨?_, ⟨hu1, hu2⟩, ?_⟩
              · unfold right
                simp only
                rw [if_neg (by omega), if_neg (by omega), if_pos (by omega)]
                simp
              · have hown : own ((c.toNat : Int), (unzz u, ([], ()))) = short (zz (unzz u)) := by
                  unfold own; simp only; rw [if_neg (by omega), if_pos (by omega)]
                unfold encV
                rw [hown]
                simp only [Int.toNat_natCast, hcc, List.cons_append]
                rw [← short_unzz hrd]
            · cases h
          · cases h
        · split at h
          · rename_i h45
            split at h
            · rename_i u k hrd
              split at h
              · rename_i hu
                cases h
                obtain ⟨hu0, hu1, hu2, hu3⟩ := hu
                have hlen : (((b.drop k).take (unzz u).toNat).length : Int) = unzz u := by simp at hu2 ⊢; omega
                refine ⟨?_, ⟨by show (-9223372036854775808 : Int) ≤ 0; decide, by show (0 : Int) ≤ _; decide⟩, ?_⟩
                · unfold right
                  simp only
                  rw [if_neg (by omega), if_neg (by omega), if_neg (by omega), if_pos (by omega)]
                  simp only [decide_true, Bool.true_and, decide_eq_true_eq]
                  omega
                · have hown : own ((c.toNat : Int), (0, ((b.drop k).take (unzz u).toNat, ()))) = short (zz (unzz u)) ++ (b.drop k).take (unzz u).toNat := by
                    unfold own; simp only; rw [if_neg (by omega), if_neg (by omega), if_pos (by omega), hlen]
                  unfold encV
                  rw [hown]
                  simp only [Int.toNat_natCast, hcc, List.cons_append, List.append_assoc, List.take_append_drop]
                  rw [← short_unzz hrd]
              · cases h
            · cases h
          · cases h

theorem pV_enc {v : V} (hr : right v = true) (hw : WfV v) (r : List UInt8) : pV (encV v ++ r) = some (v, r) := by
  obtain ⟨k, n, s, u0⟩ := v
  have hk := right_kind hr
  have ht := right_text hr
  have hbool := right_bool hr
  dsimp only at hk ht hbool
  have hkn : (UInt8.ofNat (Int.toNat k)).toNat = k.toNat := by simp; omega
  have hrr := hr
  unfold right at hr
  dsimp only at hr
  unfold encV pV
  simp only [List.cons_append, hkn]
  by_cases h0 : k = 0
  · subst h0
    simp at hr
    obtain ⟨rfl, rfl⟩ := hr
    simp [own]
  · rw [if_neg (by omega)]
    by_cases h1 : k = 1
    · subst h1
      obtain ⟨b1, b2⟩ := hbool rfl
      simp at hr
      obtain ⟨_, rfl⟩ := hr
      have e : ((UInt8.ofNat n.toNat).toNat : Int) = n := by simp; omega
      simp only [own, if_true, List.cons_append, List.nil_append]
      rw [if_pos (by decide)]
      have hle : (UInt8.ofNat n.toNat).toNat ≤ 1 := by omega
      rw [if_pos hle, e]
    · rw [if_neg (by omega)]
      by_cases h23 : k = 2 ∨ k = 3
      · rw [if_pos (by omega)]
        rw [if_neg h1, if_neg h0, if_pos h23] at hr
        simp at hr
        subst hr
        have hown : own (k, (n, ([], u0))) = short (zz n) := by unfold own; simp only; rw [if_neg h1, if_pos h23]
        rw [hown, rd_short]
        simp only
        rw [if_pos (zz_lt hw.1 hw.2), unzz_zz]
        have : (k.toNat : Int) = k := by omega
        rw [this]
        simp
      · rw [if_neg (by omega)]
        rw [if_neg h1, if_neg h0, if_neg h23] at hr
        split at hr
        · rename_i h45
          rw [if_pos (by omega)]
          simp at hr
          obtain ⟨rfl, hs⟩ := hr
          have hown : own (k, (0, (s, u0))) = short (zz (s.length : Int)) ++ s := by unfold own; simp only; rw [if_neg h1, if_neg h23, if_pos h45]
          rw [hown, List.append_assoc, rd_short]
          simp only
          rw [unzz_zz]
          have hd : (short (zz (s.length : Int)) ++ (s ++ r)).drop (short (zz (s.length : Int))).length = s ++ r := by simp
          rw [hd, if_pos ⟨zz_lt (by omega) (by omega), by omega, by simp; omega, by omega⟩]
          have : (k.toNat : Int) = k := by omega
          rw [this]
          simp
        · cases hr

/-- So many values, one behind the other. -/
def pL : Nat → List UInt8 → Option (List V × List UInt8)
  | 0, b => some ([], b)
  | n + 1, b => match pV b with
    | some (v, b') => match pL n b' with
      | some (l, r) => some (v :: l, r)
      | none => none
    | none => none

theorem pL_some : ∀ {n : Nat} {b : List UInt8} {l : List V} {r : List UInt8}, pL n b = some (l, r) → l.length = n ∧ (∀ v, v ∈ l → right v = true ∧ WfV v) ∧ b = encL l ++ r
  | 0, b, l, r, h => by cases h; exact ⟨rfl, fun v hv => by simp at hv, by simp [encL]⟩
  | n + 1, b, l, r, h => by
    unfold pL at h
    split at h
    · rename_i v b' hv
      split at h
      · rename_i l' r' hl
        cases h
        obtain ⟨h1, h2, h3⟩ := pV_some hv
        obtain ⟨h4, h5, h6⟩ := pL_some hl
        refine ⟨by simp [h4], fun x hx => ?_, by rw [h3, h6]; simp [encL]⟩
        rcases List.mem_cons.1 hx with rfl | hx
        · exact ⟨h1, h2⟩
        · exact h5 x hx
      · cases h
    · cases h

theorem pL_enc : ∀ {l : List V} (r : List UInt8), (∀ v, v ∈ l → right v = true ∧ WfV v) → pL l.length (encL l ++ r) = some (l, r)
  | [], r, _ => by simp [pL, encL]
  | v :: l, r, h => by
    have h1 := h v (by simp)
    have ih := pL_enc (l := l) r (fun x hx => h x (by simp [hx]))
    simp only [List.length_cons, pL]
    have e : encL (v :: l) ++ r = encV v ++ (encL l ++ r) := by simp [encL]
    rw [e, pV_enc h1.1 h1.2]
    simp only
    rw [ih]

/-- A row that may be. -/
def okRow (l : List V) : Prop := l.length ≤ 16 ∧ ∀ v, v ∈ l → right v = true ∧ WfV v

def bytes (l : List V) : List UInt8 := UInt8.ofNat l.length :: encL l

/-- The row of bytes. -/
def decR : List UInt8 → Option (List V)
  | [] => none
  | c :: b => if c.toNat ≤ 16 then (match pL c.toNat b with
    | some (l, []) => some l
    | _ => none) else none

theorem decR_some {b : List UInt8} {l : List V} (h : decR b = some l) : okRow l ∧ b = bytes l := by
  cases b with
  | nil => cases h
  | cons c b =>
    simp only [decR] at h
    split at h
    · rename_i hc
      split at h
      · rename_i l' hl
        cases h
        obtain ⟨h1, h2, h3⟩ := pL_some hl
        refine ⟨⟨by omega, h2⟩, ?_⟩
        unfold bytes
        rw [h1, h3, UInt8.ofNat_toNat]; simp
      · cases h
    · cases h

theorem decR_bytes {l : List V} (h : okRow l) : decR (bytes l) = some l := by
  have h16 := h.1
  unfold bytes
  simp only [decR]
  have e : (UInt8.ofNat l.length).toNat = l.length := by simp; omega
  rw [e, if_pos h16]
  have := pL_enc (l := l) [] h.2
  rw [List.append_nil] at this
  rw [this]

theorem room32 {n : Nat} (h : n ≤ 100000) : room 32 n = true := room_of (by omega)

end Go.Proofs.Ytfeidmgfninmmaa.E
