/-
  The statement LetterEncodes of the program is proved: for every input that the row speaks of, the law answers true.
  Conditions: those that the statement's row prints, and no other. This text: plain laws of the pure functions.
-/
import Derived.Test.YtfeidmgfninmmaaLetterEncodesP4
import Derived.Test.YtfeidmgfninmmaaLetterEncodesP6
set_option linter.unusedVariables false
set_option linter.unusedSimpArgs false
/-! The document's reading of a row of bytes comes to the same as the program's. -/
namespace Go.Proofs.Ytfeidmgfninmmaa.E
open Go.Ev

/-- One value off the bytes, as the document takes it: the value and its length; length 0: none. -/
def refT : List UInt8 → V × Nat
  | [] => ((0, (0, ([], ()))), 0)
  | c :: r =>
    if c.toNat = 0 then ((0, (0, ([], ()))), 1)
    else if c.toNat = 1 then (match r with
      | d :: _ => ((1, ((d.toNat : Int), ([], ()))), 2)
      | [] => ((1, (0, ([], ()))), 0))
    else if c.toNat = 2 ∨ c.toNat = 3 then (match rd r with
      | some (u, k) => if u < 18446744073709551616 then (((c.toNat : Int), (unzz u, ([], ()))), 1 + k) else (((c.toNat : Int), (0, ([], ()))), 0)
      | none => (((c.toNat : Int), (0, ([], ()))), 0))
    else if c.toNat = 4 ∨ c.toNat = 5 then (match rd r with
      | some (u, k) => if u < 18446744073709551616 ∧ 0 ≤ unzz u ∧ unzz u ≤ (r.length : Int) - k then (((c.toNat : Int), (0, ((r.drop k).take (unzz u).toNat, ()))), 1 + k + (unzz u).toNat) else (((c.toNat : Int), (0, ([], ()))), 0)
      | none => (((c.toNat : Int), (0, ([], ()))), 0))
    else (((c.toNat : Int), (0, ([], ()))), 0)

/-- The shape in which the program answers. -/
def outT (x : V × Nat) : Int × Int × List UInt8 × Int × Unit := (x.1.1, (x.1.2.1, (x.1.2.2.1, ((x.2 : Int), ()))))

theorem ref_take_eq {N : Nat} (hN : 20 < N) {b : List UInt8} (hb : b.length ≤ 140737488355328) (hl : b.length < N) : ref05_take N b = some (outT (refT b)) := by
  unfold ref05_take ref05_take_cps
  cases b with
  | nil => rfl
  | cons c r =>
    simp only [List.length_cons] at hb hl
    have hc := c.toNat_lt
    rw [if_f (by simp; omega), show nth (c :: r) 0 = some c from rfl, bind_some', kind_nat]
    simp only [refT]
    by_cases h0 : c.toNat = 0
    · rw [if_t (by omega), if_pos h0]; simp [outT, h0]
    rw [if_f (by omega), if_neg h0]
    by_cases h1 : c.toNat = 1
    · rw [if_t (by omega), if_pos h1]
      cases r with
      | nil => simp [outT, h1]
      | cons d r =>
        rw [if_t (by simp; omega), show nth (c :: d :: r) 1 = some d from rfl, bind_some', kind_nat]
        simp [outT, h1]
    rw [if_f (by omega), if_neg h1]
    have hin : (0 : Int) ≤ 1 ∧ (1 : Int) ≤ (((c :: r).length : Nat) : Int) := by simp; omega
    have hdr : List.drop 1 (List.take (c :: r).length (c :: r)) = r := by simp
    have hlong : ref05_Long N (List.drop 1 (List.take (c :: r).length (c :: r))) = some (longS r) := by
      rw [hdr, ref_Long_eq hN (by omega) (by omega)]
    have num : (bif (longS r).2.2.1 then (some ((c.toNat : Int), ((longS r).1, ([], (IntKind.wrap .i64 (1 + (longS r).2.1), ())))) : Option (Int × Int × List UInt8 × Int × Unit)) else some ((c.toNat : Int), (0, ([], (0, ()))))) =
        some (outT (match rd r with
      | some (u, k) => if u < 18446744073709551616 then (((c.toNat : Int), (unzz u, ([], ()))), 1 + k) else (((c.toNat : Int), (0, ([], ()))), 0)
      | none => (((c.toNat : Int), (0, ([], ()))), 0))) := by
      unfold longS
      cases h : rd r with
      | none => rfl
      | some x =>
        obtain ⟨u, k⟩ := x
        have hk := rd_len h
        simp only
        by_cases hu : u < 18446744073709551616
        · rw [if_pos hu, if_pos hu]
          simp only [cond_true, outT]
          rw [wrap_i64_id (by omega) (by omega)]
          simp
        · rw [if_neg hu, if_neg hu]; rfl
    by_cases h2 : c.toNat = 2
    · rw [if_t (by omega), if_t hin, hlong, bind_some', if_pos (.inl h2)]
      exact num
    rw [if_f (by omega)]
    by_cases h3 : c.toNat = 3
    · rw [if_t (by omega), if_t hin, hlong, bind_some', if_pos (.inr h3)]
      exact num
    rw [if_f (by omega), if_neg (by omega)]
    have text : ∀ x, x = longS r → (bif x.2.2.1 then
        (bif (decide (0 ≤ x.1)) then
        (bif (decide (x.1 ≤ (IntKind.wrap .i64 ((IntKind.wrap .i64 (((c :: r).length : Int) - 1)) - x.2.1)))) then
        (bif (decide (0 ≤ (IntKind.wrap .i64 ((IntKind.wrap .i64 (1 + x.2.1)) + x.1)) ∧ (IntKind.wrap .i64 ((IntKind.wrap .i64 (1 + x.2.1)) + x.1)) ≤ (((c :: r).length : Nat) : Int))) then
        (bif (decide (0 ≤ (IntKind.wrap .i64 (1 + x.2.1)) ∧ (IntKind.wrap .i64 (1 + x.2.1)) ≤ (((Int.toNat (IntKind.wrap .i64 ((IntKind.wrap .i64 (1 + x.2.1)) + x.1))) : Nat) : Int))) then
        (some ((c.toNat : Int), (0, (List.drop (Int.toNat (IntKind.wrap .i64 (1 + x.2.1))) (List.take (Int.toNat (IntKind.wrap .i64 ((IntKind.wrap .i64 (1 + x.2.1)) + x.1))) (c :: r)), (IntKind.wrap .i64 ((IntKind.wrap .i64 (1 + x.2.1)) + x.1), ())))) : Option (Int × Int × List UInt8 × Int × Unit))
        else none)
        else none)
        else some ((c.toNat : Int), (0, ([], (0, ())))))
        else some ((c.toNat : Int), (0, ([], (0, ())))))
        else some ((c.toNat : Int), (0, ([], (0, ()))))) =
        some (outT (match rd r with
      | some (u, k) => if u < 18446744073709551616 ∧ 0 ≤ unzz u ∧ unzz u ≤ (r.length : Int) - k then (((c.toNat : Int), (0, ((r.drop k).take (unzz u).toNat, ()))), 1 + k + (unzz u).toNat) else (((c.toNat : Int), (0, ([], ()))), 0)
      | none => (((c.toNat : Int), (0, ([], ()))), 0))) := by
      intro x hx
      unfold longS at hx
      cases h : rd r with
      | none => rw [h] at hx; subst hx; rfl
      | some y =>
        obtain ⟨u, k⟩ := y
        have hk := rd_len h
        rw [h] at hx
        simp only at hx ⊢
        by_cases hu : u < 18446744073709551616
        · rw [if_pos hu] at hx
          have hz := unzz_in hu
          subst hx
          simp only [cond_true]
          have hlc : ((c :: r).length : Int) = (r.length : Int) + 1 := by simp
          rw [hlc]
          generalize unzz u = n at hz
          by_cases hn : 0 ≤ n
          · rw [if_t hn, wrap_i64_id (x := 1 + (k : Int)) (by omega) (by omega), wrap_i64_id (x := (r.length : Int) + 1 - 1) (by omega) (by omega), wrap_i64_id (x := _ - (k : Int)) (by omega) (by omega)]
            by_cases hn2 : n ≤ (r.length : Int) - k
            · rw [if_t (by omega), wrap_i64_id (x := 1 + (k : Int) + n) (by omega) (by omega), if_t (by omega), if_t (by omega), if_pos ⟨hu, hn, hn2⟩]
              have e1 : (1 + (k : Int)).toNat = k + 1 := by omega
              have e2 : (1 + (k : Int) + n).toNat = (k + n.toNat) + 1 := by omega
              rw [e1, e2, List.take_succ_cons, List.drop_succ_cons, List.drop_take]
              simp only [outT]
              rw [show k + n.toNat - k = n.toNat by omega, show (1 + (k : Int) + n) = ((1 + k + n.toNat : Nat) : Int) by omega]
            · rw [if_f (by omega), if_neg (by omega)]; rfl
          · rw [if_f hn, if_neg (by omega)]; rfl
        · rw [if_neg hu] at hx
          subst hx
          rw [if_neg (by omega)]; rfl
    by_cases h4 : c.toNat = 4
    · rw [if_t (by omega), if_t hin, hlong, bind_some', if_pos (.inl h4)]
      exact text _ rfl
    rw [if_f (by omega)]
    by_cases h5 : c.toNat = 5
    · rw [if_t (by omega), if_t hin, hlong, bind_some', if_pos (.inr h5)]
      exact text _ rfl
    rw [if_f (by omega), if_neg (by omega)]
    rfl

theorem refT_len (b : List UInt8) : (refT b).2 ≤ b.length ∧ WfV (refT b).1 := by
  unfold refT
  have z : WfV (0, (0, ([], ()))) := ⟨by decide, by decide⟩
  have z' : ∀ k : Int, WfV (k, (0, ([], ()))) := fun k => ⟨by show _ ≤ (0 : Int); decide, by show (0 : Int) ≤ _; decide⟩
  cases b with
  | nil => exact ⟨by simp, z⟩
  | cons c r =>
    simp only [List.length_cons]
    split
    · exact ⟨by simp, z⟩
    split
    · cases r with
      | nil => exact ⟨by simp, z' _⟩
      | cons d r => have := d.toNat_lt; exact ⟨by simp, ⟨by show _ ≤ (d.toNat : Int); omega, by show (d.toNat : Int) ≤ _; omega⟩⟩
    split
    · split
      · rename_i u k h
        have hk := rd_len h
        split
        · rename_i hu; exact ⟨by simp only; omega, unzz_in hu⟩
        · exact ⟨by simp, z' _⟩
      · exact ⟨by simp, z' _⟩
    split
    · split
      · rename_i u k h
        have hk := rd_len h
        split
        · exact ⟨by simp only; omega, ⟨by show _ ≤ (0 : Int); decide, by show (0 : Int) ≤ _; decide⟩⟩
        · exact ⟨by simp, z' _⟩
      · exact ⟨by simp, z' _⟩
    · exact ⟨by simp, z' _⟩

theorem refT_enc {v : V} (hr : right v = true) (hw : WfV v) (r : List UInt8) : refT (encV v ++ r) = (v, (encV v).length) := by
  obtain ⟨k, n, s, ⟨⟩⟩ := v
  have hk := right_kind hr
  have ht := right_text hr
  simp only at hk ht
  obtain ⟨k, rfl⟩ : ∃ q : Nat, k = (q : Int) := ⟨k.toNat, by omega⟩
  have hc : (UInt8.ofNat (Int.toNat (k : Int))).toNat = k := by simp; omega
  have hzl := zz_lt hw.1 hw.2
  simp only at hzl
  unfold right at hr
  simp only at hr
  have hn : ∀ q : Nat, k = q → encV ((k : Int), (n, (s, ()))) = UInt8.ofNat q :: own ((k : Int), (n, (s, ()))) := fun q h => by subst h; rfl
  unfold encV
  simp only [List.cons_append, refT, hc]
  by_cases h0 : k = 0
  · subst h0
    simp at hr
    obtain ⟨rfl, rfl⟩ := hr
    simp [own]
  rw [if_neg h0]
  by_cases h1 : k = 1
  · subst h1
    simp at hr
    obtain ⟨hr, rfl⟩ := hr
    rw [if_pos rfl]
    rcases hr with rfl | rfl <;> rfl
  rw [if_neg h1]
  by_cases h2 : k = 2 ∨ k = 3
  · have hs : s = [] := by
      rw [if_neg (by omega), if_neg (by omega), if_pos (by omega)] at hr
      simpa using hr
    subst hs
    have ho : own ((k : Int), (n, ([], ()))) = short (zz n) := by unfold own; simp only; rw [if_neg (by omega), if_pos (by omega)]
    rw [if_pos h2, ho, rd_short]
    simp only
    rw [if_pos hzl, unzz_zz]
    simp only [List.length_cons]
    rw [Nat.add_comm]
  rw [if_neg h2]
  have h4 : k = 4 ∨ k = 5 := by omega
  have hn0 : n = 0 := by
    rw [if_neg (by omega), if_neg (by omega), if_neg (by omega), if_pos (by omega)] at hr
    simp at hr; exact hr.1
  subst hn0
  have ho : own ((k : Int), (0, (s, ()))) = short (zz (s.length : Int)) ++ s := by unfold own; simp only; rw [if_neg (by omega), if_neg (by omega), if_pos (by omega)]
  have hzs := zz_lt (n := (s.length : Int)) (by omega) (by omega)
  rw [if_pos h4, ho, List.append_assoc, rd_short]
  simp only
  rw [unzz_zz, if_pos ⟨hzs, by omega, by simp; omega⟩]
  simp
  omega

theorem ref_dec_loop {N : Nat} (hN : 20 < N) (R : Type) (k0 : List UInt8 → List V → Option R) (k1' : List UInt8 → Int → List V → Option R) (c : UInt8) (b : List UInt8) (hb : b.length < 100000000000) (hbN : b.length + 1 < N) :
    ∀ (d i p : Nat) (l : List V), i + d = c.toNat → p ≤ b.length + 1 → l.length ≤ 1000 + i → (∀ v, v ∈ l → WfV v) → ∀ m, d < m →
      (∃ l' : List V, (∀ v, v ∈ l' → WfV v) ∧ ref05_Decode_l0 N R k0 k1' m (c :: b) l (p : Int) (i : Int) = k0 (c :: b) l') ∨
      (∃ l', ref05_Decode_l0 N R k0 k1' m (c :: b) l (p : Int) (i : Int) = k1' (c :: b) 51 l')
  | d, i, p, l, hi, hp, hl, hw, m, hm => by
    obtain ⟨m, rfl⟩ : ∃ k, m = k + 1 := ⟨m - 1, by omega⟩
    simp only [ref05_Decode_l0, ref05_Decode_l0B]
    have hc := c.toNat_lt
    rw [show nth (c :: b) 0 = some c from rfl, bind_some', kind_nat]
    by_cases hlt : i < c.toNat
    · rw [if_t (by omega), if_t (by simp; omega), List.take_length, Int.toNat_natCast]
      have hT := refT_len ((c :: b).drop p)
      have hdl : ((c :: b).drop p).length = b.length + 1 - p := by simp
      rw [ref_take_eq hN (by omega) (by omega), bind_some']
      generalize refT ((c :: b).drop p) = x at hT
      obtain ⟨v, n⟩ := x
      have ho : (outT (v, n)).2.2.2.1 = (n : Int) := rfl
      by_cases hn : n = 0
      · rw [if_t (by rw [ho]; omega)]; exact .inr ⟨_, rfl⟩
      · rw [if_f (by rw [ho]; omega)]
        rw [cond_t (room32 (by simp; omega)), ho, wrap_i64_id (x := (p : Int) + n) (by omega) (by omega), wrap_succ hlt (by omega)]
        have := ref_dec_loop hN R k0 k1' c b hb hbN (d - 1) (i + 1) (p + n) (l ++ [v]) (by omega) (by omega) (by simp; omega) (fun w hw' => by
          rcases List.mem_append.mp hw' with h | h
          · exact hw w h
          · rw [List.mem_singleton.mp h]; exact hT.2) m (by omega)
        exact this
    · rw [if_f (by omega)]
      exact .inl ⟨l, hw, rfl⟩

theorem ref_dec_ok {N : Nat} (hN : 20 < N) (R : Type) (k0 : List UInt8 → List V → Option R) (k1' : List UInt8 → Int → List V → Option R) (ls : List V) (h16 : ls.length ≤ 16) (hr : ∀ v, v ∈ ls → right v = true ∧ WfV v) (b : List UInt8) (hb : b.length < 100000000000) (hbN : b.length + 1 < N) :
    ∀ (d i p : Nat) (l : List V), i + d = ls.length → (b.drop p = encL (ls.drop i)) → p ≤ b.length → l.length ≤ 1000 + i → ∀ m, d < m →
      ref05_Decode_l0 N R k0 k1' m (UInt8.ofNat ls.length :: b) l ((p + 1 : Nat) : Int) (i : Int) = k0 (UInt8.ofNat ls.length :: b) (l ++ ls.drop i)
  | d, i, p, l, hi, he, hp, hl, m, hm => by
    obtain ⟨m, rfl⟩ : ∃ k, m = k + 1 := ⟨m - 1, by omega⟩
    simp only [ref05_Decode_l0, ref05_Decode_l0B]
    have hcn : (UInt8.ofNat ls.length).toNat = ls.length := by simp; omega
    rw [show nth (UInt8.ofNat ls.length :: b) 0 = some (UInt8.ofNat ls.length) from rfl, bind_some', kind_nat, hcn]
    by_cases hlt : i < ls.length
    · rw [if_t (by omega), if_t (by simp; omega), List.take_length, Int.toNat_natCast, List.drop_succ_cons]
      rw [drop_step hlt] at he ⊢
      have hv := hr _ (List.getElem_mem hlt)
      generalize ls[i] = v at he hv
      have he' : b.drop p = encV v ++ encL (ls.drop (i + 1)) := by rw [he]; simp [encL]
      have hlen := congrArg List.length he'
      simp only [List.length_append, List.length_drop] at hlen
      have hpos : 1 ≤ (encV v).length := by simp [encV]
      rw [ref_take_eq hN (by simp; omega) (by simp; omega), bind_some', he', refT_enc hv.1 hv.2]
      have ho : (outT (v, (encV v).length)).2.2.2.1 = ((encV v).length : Int) := rfl
      rw [if_f (by rw [ho]; omega), cond_t (room32 (by simp; omega)), ho, wrap_i64_id (x := ((p + 1 : Nat) : Int) + _) (by omega) (by omega), wrap_succ hlt (by omega)]
      rw [show (((p + 1 : Nat) : Int) + ((encV v).length : Int)) = ((p + (encV v).length + 1 : Nat) : Int) by omega]
      have := ref_dec_ok hN R k0 k1' ls h16 hr b hb hbN (d - 1) (i + 1) (p + (encV v).length) (l ++ [v]) (by omega) (by rw [← List.drop_drop, he', List.drop_left]) (by omega) (by simp; omega) m (by omega)
      refine this.trans ?_
      rw [List.append_assoc]; rfl
    · rw [if_f (by omega), show i = ls.length by omega, List.drop_length, List.append_nil]

theorem ref_Decode_eq {N : Nat} (hN : 2000 < N) {b : List UInt8} (hb : b.length < 100000000000) (hbN : b.length < N) :
    ref05_Decode N b = some (match decR b with
      | some l => (l, (0, ()))
      | none => ([], (51, ()))) := by
  unfold ref05_Decode ref05_Decode_cps
  cases b with
  | nil => rfl
  | cons c r =>
    simp only [List.length_cons] at hb hbN
    rw [if_f (by simp; omega)]
    cases h : decR (c :: r) with
    | some ls =>
      obtain ⟨hok, he⟩ := decR_some h
      simp only [bytes, List.cons.injEq] at he
      obtain ⟨hc, hr⟩ := he
      subst hc
      have := ref_dec_ok (N := N) (by omega) (List V × Int × Unit) (fun v2 v3 => (Option.bind (ref05_Encode N v3) fun (v4 : (List UInt8) × Int × Unit) =>
          (bif (!(decide (v4.2.1 = 0))) then some ([], (51, ())) else (bif (!(decide (v4.1 = v2))) then some ([], (51, ())) else some (v3, (0, ())))))) (fun _ e _ => some ([], (e, ()))) ls hok.1 hok.2 r (by omega) (by omega) ls.length 0 0 [] (by omega) (by simpa using hr) (by omega) (by simp) N (by have := hok.1; omega)
      refine this.trans ?_
      rw [List.drop_zero, List.nil_append]
      rcases ref_Encode_eq hN ls (fun v hv => (hok.2 v hv).2) with ⟨_, _, e⟩ | ⟨h' | ⟨v, hv, hr⟩, _⟩
      · rw [e, bind_some', ← hr]; simp
      · exact absurd hok.1 (by omega)
      · rw [(hok.2 v hv).1] at hr; cases hr
    | none =>
      have hc := c.toNat_lt
      rcases ref_dec_loop (N := N) (by omega) (List V × Int × Unit) (fun v2 v3 => (Option.bind (ref05_Encode N v3) fun (v4 : (List UInt8) × Int × Unit) =>
          (bif (!(decide (v4.2.1 = 0))) then some ([], (51, ())) else (bif (!(decide (v4.1 = v2))) then some ([], (51, ())) else some (v3, (0, ())))))) (fun _ e _ => some ([], (e, ()))) c r (by omega) (by omega) c.toNat 0 1 [] (by omega) (by omega) (by simp) (by simp) N (by omega) with ⟨l', hw, e⟩ | ⟨l', e⟩
      · refine (Eq.trans ?_ e).trans ?_
        · rfl
        rcases ref_Encode_eq hN l' hw with ⟨h16, hr, e⟩ | ⟨_, e⟩
        · rw [e, bind_some']
          have : ¬ UInt8.ofNat l'.length :: encL l' = c :: r := by
            intro e
            rw [← e, show UInt8.ofNat l'.length :: encL l' = bytes l' from rfl, decR_bytes ⟨h16, fun v hv => ⟨hr v hv, hw v hv⟩⟩] at h
            cases h
          simp [this]
        · rw [e, bind_some']; rfl
      · exact Eq.trans rfl e

end Go.Proofs.Ytfeidmgfninmmaa.E
