/-
  The statement LetterBack of the program is proved: for every input that the row speaks of, the law answers true.
  Conditions: those that the statement's row prints, and no other. This text: plain laws of the pure functions.
-/
import Derived.Test.YtfeidmgfninmmaaLetterBackF
import Derived.Test.YtfeidmgfninmmaaEvA
import Derived.KernelRfl
set_option linter.unusedVariables false
set_option linter.unusedSimpArgs false
/-! The plain law of rows. -/
namespace Go.Proofs.Ytfeidmgfninmmaa.E
open Go.Ev

/-- A number's short bytes: seven bits a byte, the lowest first. -/
def short (u : Nat) : List UInt8 :=
  if u ≤ 127 then [UInt8.ofNat u] else UInt8.ofNat (u % 128 + 128) :: short (u / 128)
termination_by u
decreasing_by omega

/-- A number as one from 0 on. -/
def zz (n : Int) : Nat := if 0 ≤ n then (2 * n).toNat else (-2 * n - 1).toNat

theorem zz_lt {n : Int} (h1 : -9223372036854775808 ≤ n) (h2 : n ≤ 9223372036854775807) : zz n < 18446744073709551616 := by
  unfold zz; split <;> omega

theorem or_128 : ∀ x, x < 256 → x ||| 128 = x % 128 + 128 := by decide +kernel

theorem short_step {u : Nat} (h : ¬ u ≤ 127) : short u = UInt8.ofNat (u % 128 + 128) :: short (u / 128) := by rw [short, if_neg h]
theorem short_last {u : Nat} (h : u ≤ 127) : short u = [UInt8.ofNat u] := by rw [short, if_pos h]

theorem short_len : ∀ (k u : Nat), u < 2 ^ (7 * (k + 1)) → (short u).length ≤ k + 1
  | 0, u, h => by rw [short_last (by simp at h; omega)]; simp
  | k + 1, u, h => by
    by_cases h7 : u ≤ 127
    · rw [short_last h7]; simp
    · rw [short_step h7, List.length_cons]
      have : u / 128 < 2 ^ (7 * (k + 1)) := by
        rw [Nat.div_lt_iff_lt_mul (by omega)]
        rw [show 7 * (k + 1 + 1) = 7 * (k + 1) + 7 by omega, Nat.pow_add] at h
        exact h
      have := short_len k (u / 128) this
      omega

theorem short_len10 {u : Nat} (h : u < 18446744073709551616) : (short u).length ≤ 10 := short_len 9 u (by have : 2 ^ (7 * (9 + 1)) = 1180591620717411303424 := by decide
                                                                                                          omega)

theorem byte_or {u : Nat} : UInt8.ofNat (Int.toNat (Ev.bits .or .u8 (IntKind.wrap .u8 (u : Int)) 128)) = UInt8.ofNat (u % 128 + 128) := by
  have e : IntKind.wrap .u8 (u : Int) = ((u % 256 : Nat) : Int) := by rw [wrap_u8]; omega
  have h := or_u8 (a := u % 256) (b := 128) (by omega) (by omega)
  rw [e, show (128 : Int) = ((128 : Nat) : Int) from rfl, h, or_128 _ (by omega)]
  simp only [Int.toNat_natCast]
  congr 1; omega

theorem byte_last {u : Nat} (h : u ≤ 127) : UInt8.ofNat (Int.toNat (IntKind.wrap .u8 (u : Int))) = UInt8.ofNat u := by
  rw [wrap_u8_id (by omega) (by omega)]; simp

theorem row_Short_loop (N : Nat) (R : Type) (k0 : Int → List UInt8 → Option R) : ∀ (n u : Nat) (l : List UInt8), u < 2 ^ (7 * n + 7) → l.length + n ≤ 1000 →
    ∃ (u' : Nat) (l' : List UInt8), u' ≤ 127 ∧ l' ++ [UInt8.ofNat u'] = l ++ short u ∧ ∀ m, n < m → row_Short_l0 N R k0 m (u : Int) l = k0 u' l'
  | n, u, l, h, hl => by
    by_cases h7 : u ≤ 127
    · refine ⟨u, l, h7, by rw [short_last h7], fun m hm => ?_⟩
      obtain ⟨m, rfl⟩ : ∃ k, m = k + 1 := ⟨m - 1, by omega⟩
      simp only [row_Short_l0, row_Short_l0B]
      rw [if_f (by omega)]
    · cases n with
      | zero => simp at h; omega
      | succ n =>
        have hd : u / 128 < 2 ^ (7 * n + 7) := by
          rw [Nat.div_lt_iff_lt_mul (by omega)]
          rw [show 7 * (n + 1) + 7 = (7 * n + 7) + 7 by omega, Nat.pow_add] at h
          exact h
        obtain ⟨u', l', h1, h2, h3⟩ := row_Short_loop N R k0 n (u / 128) (l ++ [UInt8.ofNat (u % 128 + 128)]) hd (by simp; omega)
        refine ⟨u', l', h1, by rw [h2, short_step h7]; simp, fun m hm => ?_⟩
        obtain ⟨m, rfl⟩ : ∃ k, m = k + 1 := ⟨m - 1, by omega⟩
        simp only [row_Short_l0, row_Short_l0B]
        rw [if_t (by omega), byte_or, cond_t (room_one (by simp; omega)), show Ev.shr .u64 (u : Int) 7 = ((u / 128 : Nat) : Int) from shr_nat .u64 u 7 (by decide), h3 m (by omega)]

theorem zz_bits {n : Int} (h1 : -9223372036854775808 ≤ n) (h2 : n ≤ 9223372036854775807) :
    Ev.bits .xor .u64 (Ev.shl .u64 (IntKind.wrap .u64 n) 1) (IntKind.wrap .u64 (Ev.shr .i64 n 63)) = (zz n : Int) := by
  obtain ⟨a, ha⟩ : ∃ a : Nat, IntKind.wrap .u64 n = (a : Int) := ⟨(n % 18446744073709551616).toNat, by rw [wrap_u64]; omega⟩
  have ha' := ha
  rw [wrap_u64] at ha'
  have e1 : Ev.shl .u64 (a : Int) 1 = ((a * 2 % 18446744073709551616 : Nat) : Int) := by
    rw [show (1 : Int) = ((1 : Nat) : Int) from rfl, shl_nat .u64 a 1 (by decide), wrap_u64]; omega
  rw [ha, e1]
  have e2 : Ev.shr .i64 n 63 = if 0 ≤ n then 0 else -1 := by
    unfold Ev.shr
    rw [Int.fdiv_eq_ediv_of_nonneg _ (by decide)]
    rw [show (2 ^ min (Int.toNat 63) (IntKind.bits .i64) : Int) = 9223372036854775808 by decide]
    split <;> omega
  rw [e2]
  unfold zz
  split
  · rw [show IntKind.wrap .u64 0 = ((0 : Nat) : Int) by rw [wrap_u64]; rfl, xor_u64 (by omega) (by omega), Nat.xor_zero]; omega
  · rw [show IntKind.wrap .u64 (-1) = ((18446744073709551615 : Nat) : Int) by rw [wrap_u64]; rfl, xor_u64 (by omega) (by omega), xor_ones (by omega)]; omega

theorem row_Short_eq {N : Nat} (hN : 20 < N) {n : Int} (h1 : -9223372036854775808 ≤ n) (h2 : n ≤ 9223372036854775807) : row_Short N n = some (short (zz n), ()) := by
  unfold row_Short row_Short_cps
  rw [zz_bits h1 h2]
  have hz := zz_lt h1 h2
  obtain ⟨u', l', h3, h4, h5⟩ := row_Short_loop N _ (fun (v2 : Int) (v3 : List UInt8) => bif (room 1 (v3.length + [(UInt8.ofNat (Int.toNat (IntKind.wrap .u8 v2)))].length)) then
    ((fun a0 => some (a0, ())) (v3 ++ [(UInt8.ofNat (Int.toNat (IntKind.wrap .u8 v2)))]) : Option (List UInt8 × Unit)) else none) 9 (zz n) [] (Nat.lt_of_lt_of_le hz (by decide)) (by simp)
  rw [h5 N (by omega)]
  have hl : l'.length + 1 ≤ 10 := by have := congrArg List.length h4; have h6 := short_len10 hz; simp at this; omega
  rw [cond_t (room_one (by simp; omega)), byte_last h3, h4]
  rfl

abbrev V := Int × (Int × (List UInt8 × Unit))

/-- A right value. -/
def right (v : V) : Bool :=
  if v.1 = 1 then decide (v.2.1 = 1 ∨ v.2.1 = 0) && decide (v.2.2.1 = [])
  else if v.1 = 0 then decide (v.2.1 = 0) && decide (v.2.2.1 = [])
  else if v.1 = 2 ∨ v.1 = 3 then decide (v.2.2.1 = [])
  else if v.1 = 4 ∨ v.1 = 5 then decide (v.2.1 = 0) && decide (v.2.2.1.length ≤ 200)
  else false

theorem value_Right_eq (N : Nat) (v : V) : value_Right N v.1 v.2.1 v.2.2.1 = some (right v, ()) := by
  unfold value_Right value_Right_cps right
  obtain ⟨k, n, s, _⟩ := v
  simp only
  by_cases h1 : k = 1
  · subst h1
    by_cases n1 : n = 1
    · subst n1; simp
    · by_cases n0 : n = 0
      · subst n0; simp
      · simp [n1, n0]
  · by_cases h0 : k = 0
    · subst h0
      by_cases n0 : n = 0 <;> simp [n0]
    · by_cases h2 : k = 2
      · subst h2; simp
      · by_cases h3 : k = 3
        · subst h3; simp
        · by_cases h4 : k = 4
          · subst h4
            by_cases n0 : n = 0
            · simp [n0]; omega
            · simp [n0]
          · by_cases h5 : k = 5
            · subst h5
              by_cases n0 : n = 0
              · simp [n0]; omega
              · simp [n0]
            · simp [h0, h1, h2, h3, h4, h5]

/-- What comes behind a value's kind. -/
def own (v : V) : List UInt8 :=
  if v.1 = 1 then [UInt8.ofNat (Int.toNat v.2.1)]
  else if v.1 = 2 ∨ v.1 = 3 then short (zz v.2.1)
  else if v.1 = 4 ∨ v.1 = 5 then short (zz (v.2.2.1.length : Int)) ++ v.2.2.1
  else []

/-- A value's bytes. -/
def encV (v : V) : List UInt8 := UInt8.ofNat (Int.toNat v.1) :: own v

def encL (l : List V) : List UInt8 := l.flatMap encV

theorem right_kind {v : V} (h : right v = true) : 0 ≤ v.1 ∧ v.1 ≤ 5 := by
  unfold right at h
  split at h
  · omega
  · split at h
    · omega
    · split at h
      · omega
      · split at h
        · omega
        · cases h

theorem right_text {v : V} (h : right v = true) : v.2.2.1.length ≤ 200 := by
  unfold right at h
  split at h
  · simp at h; simp [h.2]
  · split at h
    · simp at h; simp [h.2]
    · split at h
      · simp at h; simp [h]
      · split at h
        · simp at h; exact h.2
        · cases h

theorem right_bool {v : V} (h : right v = true) (h1 : v.1 = 1) : 0 ≤ v.2.1 ∧ v.2.1 ≤ 1 := by
  unfold right at h
  rw [if_pos h1] at h
  simp at h
  omega

/-- A value as the rows read it. -/
def WfV (v : V) : Prop := -9223372036854775808 ≤ v.2.1 ∧ v.2.1 ≤ 9223372036854775807

theorem own_len {v : V} (h : right v = true) (hw : WfV v) : (own v).length ≤ 210 := by
  have ht := right_text h
  unfold own
  split
  · simp
  · split
    · have := short_len10 (zz_lt hw.1 hw.2); omega
    · split
      · have := short_len10 (zz_lt (n := (v.2.2.1.length : Int)) (by omega) (by omega)); simp; omega
      · simp

theorem encV_len {v : V} (h : right v = true) (hw : WfV v) : (encV v).length ≤ 211 := by
  have := own_len h hw
  simp [encV]; omega

theorem encL_len : ∀ {l : List V}, (∀ v, v ∈ l → right v = true) → (∀ v, v ∈ l → WfV v) → (encL l).length ≤ 211 * l.length
  | [], _, _ => by simp [encL]
  | v :: r, h, hw => by
    have h1 := encV_len (h v (by simp)) (hw v (by simp))
    have h2 := encL_len (l := r) (fun x hx => h x (by simp [hx])) (fun x hx => hw x (by simp [hx]))
    simp only [encL, List.flatMap_cons, List.length_append, List.length_cons] at *
    omega

theorem kind_byte {k : Int} (h : 0 ≤ k ∧ k ≤ 5) : UInt8.ofNat (Int.toNat (IntKind.wrap .u8 k)) = UInt8.ofNat (Int.toNat k) := by
  rw [wrap_u8_id (by omega) (by omega)]

theorem drop_step {α : Type} {l : List α} {i : Nat} (h : i < l.length) : l.drop i = l[i] :: l.drop (i + 1) := (List.drop_eq_getElem_cons h)

theorem row_Encode_loop {N : Nat} (hN : 20 < N) (R : Type) (k0 : List UInt8 → Option R) (k1 : Int → List UInt8 → Option R) (l : List V) (hw : ∀ v, v ∈ l → WfV v) (hl : l.length ≤ 1000) :
    ∀ (d i : Nat) (out : List UInt8), i + d = l.length → out.length ≤ 300000000 - 300 * d → ∀ m, d < m →
      ((∀ v, v ∈ l.drop i → right v = true) ∧ row_Encode_l0 N R k0 k1 m out l (l.length : Int) (i : Int) = k0 (out ++ encL (l.drop i))) ∨
      ((∃ v, v ∈ l.drop i ∧ right v = false) ∧ ∃ o, row_Encode_l0 N R k0 k1 m out l (l.length : Int) (i : Int) = k1 51 o)
  | d, i, out, hi, ho, m, hm => by
    obtain ⟨m, rfl⟩ : ∃ k, m = k + 1 := ⟨m - 1, by omega⟩
    simp only [row_Encode_l0, row_Encode_l0B]
    by_cases hlt : i < l.length
    · rw [if_t (by omega), nth_lt hlt, bind_some', value_Right_eq, bind_some']
      have hin : l[i] ∈ l := List.getElem_mem hlt
      have hwv := hw _ hin
      rw [drop_step hlt]
      generalize l[i] = v at *
      simp only
      by_cases hr : right v = true
      · obtain ⟨d, rfl⟩ : ∃ k, d = k + 1 := ⟨d - 1, by omega⟩
        have hk := right_kind hr
        have ht := right_text hr
        have hol := own_len hr hwv
        have next : ∀ o : List UInt8, o = out ++ encV v →
            ((∀ x, x ∈ v :: l.drop (i + 1) → right x = true) ∧ row_Encode_l0 N R k0 k1 m o l (l.length : Int) (IntKind.wrap .i64 ((i : Int) + 1)) = k0 (out ++ encL (v :: l.drop (i + 1)))) ∨
            ((∃ x, x ∈ v :: l.drop (i + 1) ∧ right x = false) ∧ ∃ o', row_Encode_l0 N R k0 k1 m o l (l.length : Int) (IntKind.wrap .i64 ((i : Int) + 1)) = k1 51 o') := by
          intro o ho'
          subst ho'
          rw [wrap_succ hlt (by omega)]
          have hvl := encV_len hr hwv
          rcases row_Encode_loop hN R k0 k1 l hw hl d (i + 1) (out ++ encV v) (by omega) (by simp; omega) m (by omega) with ⟨h1, h2⟩ | ⟨⟨x, h1, h1'⟩, o', h2⟩
          · refine .inl ⟨fun x hx => ?_, ?_⟩
            · rcases List.mem_cons.1 hx with rfl | hx
              · exact hr
              · exact h1 x hx
            · rw [h2]; simp [encL, List.append_assoc]
          · exact .inr ⟨⟨x, List.mem_cons_of_mem _ h1, h1'⟩, o', h2⟩
        rw [cond_f (by simp [hr]), kind_byte hk, cond_t (room_one (by simp; omega))]
        by_cases h1 : v.1 = 1
        · have hb := right_bool hr h1
          rw [if_t h1, cond_t (room_one (by simp; omega))]
          refine next _ ?_
          unfold encV own
          rw [if_pos h1, wrap_u8_id (by omega) (by omega)]; simp
        · rw [if_f h1]
          by_cases h2 : v.1 = 2
          · have hs : own v = short (zz v.2.1) := by unfold own; rw [if_neg h1, if_pos (.inl h2)]
            rw [if_t h2, row_Short_eq hN hwv.1 hwv.2, bind_some']
            rw [hs] at hol
            rw [cond_t (room_one (by simp; omega))]
            exact next _ (by unfold encV; rw [hs]; simp)
          · rw [if_f h2]
            by_cases h3 : v.1 = 3
            · have hs : own v = short (zz v.2.1) := by unfold own; rw [if_neg h1, if_pos (.inr h3)]
              rw [if_t h3, row_Short_eq hN hwv.1 hwv.2, bind_some']
              rw [hs] at hol
              rw [cond_t (room_one (by simp; omega))]
              exact next _ (by unfold encV; rw [hs]; simp)
            · rw [if_f h3]
              by_cases h4 : v.1 = 4
              · have hs : own v = short (zz (v.2.2.1.length : Int)) ++ v.2.2.1 := by unfold own; rw [if_neg h1, if_neg (by omega), if_pos (.inl h4)]
                rw [if_t h4, row_Short_eq hN (by omega) (by omega), bind_some']
                rw [hs] at hol
                simp only [List.length_append] at hol
                rw [cond_t (room_one (by simp; omega)), cond_t (room_one (by simp; omega))]
                exact next _ (by unfold encV; rw [hs]; simp)
              · rw [if_f h4]
                by_cases h5 : v.1 = 5
                · have hs : own v = short (zz (v.2.2.1.length : Int)) ++ v.2.2.1 := by unfold own; rw [if_neg h1, if_neg (by omega), if_pos (.inr h5)]
                  rw [if_t h5, row_Short_eq hN (by omega) (by omega), bind_some']
                  rw [hs] at hol
                  simp only [List.length_append] at hol
                  rw [cond_t (room_one (by simp; omega)), cond_t (room_one (by simp; omega))]
                  exact next _ (by unfold encV; rw [hs]; simp)
                · rw [if_f h5]
                  exact next _ (by unfold encV own; rw [if_neg h1, if_neg (by omega), if_neg (by omega)])
      · rw [cond_t (by simp [hr])]
        exact .inr ⟨⟨v, by simp, by simpa using hr⟩, _, rfl⟩
    · have : i = l.length := by omega
      rw [if_f (by omega)]
      refine .inl ⟨fun v hv => ?_, ?_⟩
      · rw [this, List.drop_length] at hv; simp at hv
      · rw [this, List.drop_length]; simp [encL]

/-- A row's bytes, where it has any. -/
theorem row_Encode_eq {N : Nat} (hN : 2000 < N) (l : List V) (hw : ∀ v, v ∈ l → WfV v) :
    (l.length ≤ 16 ∧ (∀ v, v ∈ l → right v = true) ∧ row_Encode N l = some (UInt8.ofNat l.length :: encL l, (0, ()))) ∨
    ((16 < l.length ∨ ∃ v, v ∈ l ∧ right v = false) ∧ row_Encode N l = some ([], (51, ()))) := by
  unfold row_Encode row_Encode_cps
  by_cases h : l.length ≤ 16
  · rw [if_f (by omega), wrap_u8_id (by omega) (by omega)]
    rcases row_Encode_loop (N := N) (by omega) _ (fun v2 => (fun a0 a1 => some (a0, (a1, ()))) v2 0) (fun v3 v4 => ((fun a0 a1 => some (a0, (a1, ()))) [] v3 : Option (List UInt8 × Int × Unit))) l hw (by omega) l.length 0 [UInt8.ofNat (Int.toNat (l.length : Int))] (by omega) (by simp; omega) N (by omega) with ⟨h1, h2⟩ | ⟨⟨v, h1, h1'⟩, o, h2⟩
    · refine .inl ⟨h, by simpa using h1, ?_⟩
      refine h2.trans ?_
      simp
    · exact .inr ⟨.inr ⟨v, by simpa using h1, h1'⟩, h2⟩
  · exact .inr ⟨.inl (by omega), by rw [if_t (by omega)]⟩

end Go.Proofs.Ytfeidmgfninmmaa.E
