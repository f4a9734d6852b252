/-
  Plain laws of the pure functions.
  Conditions: those that each statement prints, and no other.
-/
import Derived.Test.YtbikfekdakigiaaGreatDoorPValP
set_option linter.unusedVariables false
set_option linter.unusedSimpArgs false
/-! A value's text: what the program makes of it. -/
namespace Go.Proofs.YtbikfekdakigiaaGreatDoor.E
open Go.Ev

def rightB (k n : Int) (s : Bs) : Bool :=
  if k = 1 then decide ((n = 1 ∨ n = 0) ∧ s = [])
  else if k = 0 then decide (n = 0 ∧ s = [])
  else if k = 2 ∨ k = 3 then decide (s = [])
  else if k = 4 ∨ k = 5 then decide (n = 0 ∧ s.length ≤ 200)
  else false

theorem right_eq (N : Nat) (k n : Int) (s : Bs) : value_Right N k n s = some (rightB k n s, ()) := by
  unfold value_Right value_Right_cps rightB
  by_cases h1 : k = 1
  · subst h1
    by_cases h2 : n = 1
    · subst h2; simp
    · by_cases h3 : n = 0
      · subst h3; simp
      · simp [h2, h3]
  · by_cases h0 : k = 0
    · subst h0
      by_cases h3 : n = 0
      · subst h3; simp
      · simp [h3]
    · by_cases h2 : k = 2
      · subst h2; simp
      · by_cases h3 : k = 3
        · subst h3; simp
        · by_cases h4 : k = 4
          · subst h4
            by_cases h5 : n = 0
            · subst h5; simp; omega
            · simp [h5]
          · by_cases h6 : k = 5
            · subst h6
              by_cases h5 : n = 0
              · subst h5; simp; omega
              · simp [h5]
            · simp [h1, h0, h2, h3, h4, h6]

/-- A decimal's figures: five at least. -/
def pad (l : Bs) : Bs := List.replicate (5 - l.length) 48 ++ l
def dotted (l : Bs) : Bs := l.take (l.length - 4) ++ 46 :: l.drop (l.length - 4)
def decT (n : Int) : Bs := sgn n ++ dotted (pad (Lib.decDigits n.natAbs))

def txt (k n : Int) (s : Bs) : Bs :=
  if rightB k n s = false then [63]
  else if k = 0 then [110, 117, 108, 108]
  else if k = 1 then (if n = 1 then [116, 114, 117, 101] else [102, 97, 108, 115, 101])
  else if k = 2 then Lib.itoa n
  else if k = 3 then decT n
  else if k = 5 then 120 :: 39 :: (hexs s ++ [39])
  else 39 :: (dbl s ++ [39])

theorem hexTab_get_fin : ∀ i : Fin 16, hexTab[i.val]? = some (hx i.val) := by decide
theorem hexTab_get {k : Nat} (h : k < 16) : hexTab[k]? = some (hx k) := hexTab_get_fin ⟨k, h⟩

theorem nth_hi (c : UInt8) : nth hexTab (Ev.shr .u8 (c.toNat : Int) 4) = some (hx (c.toNat / 16)) := by
  have h : Ev.shr .u8 (c.toNat : Int) 4 = ((c.toNat / 2 ^ 4 : Nat) : Int) := shr_nat .u8 c.toNat 4 (by decide)
  have hc := c.toNat_lt
  rw [h, nth_nat]
  exact hexTab_get (by omega)
theorem nth_lo (c : UInt8) : nth hexTab (Ev.bits .and .u8 (c.toNat : Int) 15) = some (hx (c.toNat % 16)) := by
  have hc := c.toNat_lt
  have h : Ev.bits .and .u8 (c.toNat : Int) ((15 : Nat) : Int) = ((c.toNat &&& 15 : Nat) : Int) := and_u8 (by omega) (by omega)
  have h2 : c.toNat &&& 15 = c.toNat % 16 := Nat.and_two_pow_sub_one_eq_mod c.toNat 4
  have h3 : Ev.bits .and .u8 (c.toNat : Int) 15 = ((c.toNat % 16 : Nat) : Int) := by rw [← h2]; exact h
  rw [h3, nth_nat]
  exact hexTab_get (Nat.mod_lt _ (by omega))

theorem ofToNat (c : UInt8) : UInt8.ofNat (Int.toNat (c.toNat : Int)) = c := by simp

theorem text_loop {N : Nat} {R : Type} {k0 : Bs → Int → Int → Bs → Option R} {s : Bs} (hs : s.length ≤ 1000000) {a b : Int} {c : Bs} : ∀ (m i : Nat) (acc : Bs) (fuel : Nat), i + m = s.length → m < fuel → acc.length = 2 * i →
    value_Text_l1 N R k0 fuel acc s (s.length : Int) (i : Int) a b c = k0 (acc ++ hexs (s.drop i)) a b c
  | m, i, acc, 0, _, h, _ => absurd h (Nat.not_lt_zero _)
  | 0, i, acc, fuel + 1, h1, _, _ => by
    show value_Text_l1B N R _ k0 acc s (s.length : Int) (i : Int) a b c = _
    unfold value_Text_l1B
    rw [if_f (by omega), List.drop_eq_nil_of_le (by omega)]
    simp [hexs]
  | m + 1, i, acc, fuel + 1, h1, h2, h3 => by
    show value_Text_l1B N R (value_Text_l1 N R k0 fuel) k0 acc s (s.length : Int) (i : Int) a b c = _
    unfold value_Text_l1B
    have hi : i < s.length := by omega
    rw [if_t (by omega), nth_lt hi, bind_some']
    show (Option.bind (nth hexTab _) _) = _
    rw [nth_hi, bind_some']
    show (Option.bind (nth hexTab _) _) = _
    rw [nth_lo, bind_some', ofToNat, ofToNat, cond_t (room_one (by simp; omega)), wrap_succ hi (by omega), text_loop hs m (i + 1) _ fuel (by omega) (by omega) (by simp; omega), List.drop_eq_getElem_cons hi]
    simp [hexs]

theorem fmt_eq (N : Nat) (n : Int) : strconv_FormatInt N n 10 = some (Lib.itoa n, ()) := by
  unfold strconv_FormatInt strconv_FormatInt_cps; simp

theorem hasPrefix_eq (N : Nat) {s p : Bs} : stringslite_HasPrefix N s p = some (decide (p <+: s), ()) := by
  unfold stringslite_HasPrefix stringslite_HasPrefix_cps
  by_cases h : p.length ≤ s.length
  · rw [if_t (by omega), if_t (by omega)]
    have : (List.take p.length s = p) ↔ (p <+: s) := ⟨fun e => by rw [← e]; exact List.take_prefix _ _, fun e => (List.prefix_iff_eq_take.1 e).symm⟩
    simp [this]
  · rw [if_f (by omega)]
    have : ¬ p <+: s := fun e => h e.length_le
    simp [this]

theorem cut_eq (N : Nat) {s p : Bs} : strings_CutPrefix N s p = some (if p <+: s then (s.drop p.length, (true, ())) else (s, (false, ()))) := by
  unfold strings_CutPrefix strings_CutPrefix_cps stringslite_CutPrefix stringslite_CutPrefix_cps
  rw [hasPrefix_eq, bind_some']
  by_cases h : p <+: s
  · have := h.length_le
    simp only [h, decide_true, Bool.not_true, if_true]
    rw [cond_f rfl, if_t (by omega)]
    simp
  · simp [h]

theorem dec_head (u : Nat) : ¬ [45] <+: Lib.decDigits u := by
  intro h
  obtain ⟨t, ht⟩ := h
  have := dec_fig u 45 (by rw [← ht]; simp)
  exact absurd this.1 (by decide)

theorem pad_len (l : Bs) : 5 ≤ (pad l).length ∧ (pad l).length ≤ max 5 l.length := by
  unfold pad; simp; omega

theorem rep_zeros (k : Nat) : Lib.repeatL [48] k = List.replicate k 48 := by
  have := Lib.repeatL_replicate 48 1 k
  simpa using this

theorem dot_eq {N : Nat} {R : Type} {k0 : Bs → Int → Int → Bs → Option R} {l : Bs} (h5 : 5 ≤ l.length) (hl : l.length ≤ 1000000) (neg : Bool) (a b : Int) (c : Bs) :
    value_Text_j0 N R k0 l neg a b c = k0 ((if neg then [45] else []) ++ dotted l) a b c := by
  unfold value_Text_j0
  have hw : IntKind.wrap .i64 ((l.length : Int) - 4) = ((l.length - 4 : Nat) : Int) := by rw [wrap_i64_id (by omega) (by omega)]; omega
  simp only [hw]
  rw [if_t (by omega), cond_t (room_one (by simp; omega)), if_t (by omega), cond_t (room_one (by simp; omega))]
  simp only [Int.toNat_natCast, List.drop_zero, List.take_length]
  have e : List.take (l.length - 4) l ++ [46] ++ List.drop (l.length - 4) l = dotted l := by unfold dotted; simp
  rw [e]
  cases neg
  · rfl
  · have : (dotted l).length = l.length + 1 := by unfold dotted; simp; omega
    rw [cond_t (rfl : true = true), cond_t (room_one (by simp [this]; omega))]
    simp

theorem replaceAll_eq (N : Nat) {s o n : Bs} (h1 : s.length ≤ 1000000) (h2 : 1 ≤ o.length) (h3 : n.length ≤ 2) : strings_ReplaceAll N s o n = some (Lib.replaceAll s o n, ()) := by
  unfold strings_ReplaceAll strings_ReplaceAll_cps
  have hc := Lib.count_le s o
  have : Lib.count s o * n.length ≤ (s.length + 1) * 2 := Nat.mul_le_mul hc h3
  rw [if_t ⟨by omega, h2, by omega⟩]

theorem text_eq {N : Nat} (hN : 1000 < N) {k n : Int} {s : Bs} (hn : I64 n) : value_Text N k n s = some (txt k n s, ()) := by
  unfold value_Text value_Text_cps txt
  rw [right_eq, bind_some']
  cases hr : rightB k n s with
  | false => simp
  | true =>
    dsimp only
    rw [cond_f (show (!true) = false from rfl), if_neg (by simp)]
    by_cases h0 : k = 0
    · rw [if_t h0, if_pos h0]
    rw [if_f h0, if_neg h0]
    by_cases h1 : k = 1
    · rw [if_t h1, if_pos h1]
      unfold strconv_FormatBool strconv_FormatBool_cps strconv_FormatBool_ strconv_FormatBool__cps
      by_cases hn1 : n = 1 <;> simp [hn1]
    rw [if_f h1, if_neg h1]
    by_cases h2 : k = 2
    · rw [if_t h2, if_pos h2, fmt_eq]; rfl
    rw [if_f h2, if_neg h2]
    by_cases h3 : k = 3
    · rw [if_t h3, if_pos h3, fmt_eq, bind_some', cut_eq, bind_some']
      obtain ⟨n1, n2⟩ := hn
      have hlen := dec_len (u := n.natAbs) (by omega)
      have hpos := dec_len_pos n.natAbs
      have key : (if ([45] : Bs) <+: Lib.itoa n then (List.drop ([45] : Bs).length (Lib.itoa n), (true, ())) else (Lib.itoa n, (false, ()))) = (Lib.decDigits n.natAbs, (decide (n < 0), ())) := by
        rw [itoa_eq]
        unfold sgn
        by_cases hneg : n < 0
        · simp [hneg]
        · simp only [hneg, if_false, List.nil_append, decide_false]
          rw [if_neg (dec_head _)]
      simp only [key]
      have hsg : (if decide (n < 0) = true then ([45] : Bs) else []) = sgn n := by unfold sgn; by_cases hneg : n < 0 <;> simp [hneg]
      have hp := pad_len (Lib.decDigits n.natAbs)
      by_cases h5 : (Lib.decDigits n.natAbs).length < 5
      · rw [if_t (by omega)]
        have hw : IntKind.wrap .i64 (5 - ((Lib.decDigits n.natAbs).length : Int)) = ((5 - (Lib.decDigits n.natAbs).length : Nat) : Int) := by rw [wrap_i64_id (by omega) (by omega)]; omega
        unfold strings_Repeat strings_Repeat_cps
        rw [hw, if_t ⟨by omega, by simp; omega⟩, bind_some', Int.toNat_natCast, rep_zeros, cond_t (room_one (by simp; omega))]
        have e : List.replicate (5 - (Lib.decDigits n.natAbs).length) 48 ++ Lib.decDigits n.natAbs = pad (Lib.decDigits n.natAbs) := rfl
        rw [e, dot_eq hp.1 (by omega), hsg]; rfl
      · rw [if_f (by omega)]
        have e : pad (Lib.decDigits n.natAbs) = Lib.decDigits n.natAbs := by unfold pad; rw [show 5 - (Lib.decDigits n.natAbs).length = 0 by omega]; rfl
        rw [dot_eq (by omega) (by omega), hsg, ← e]
        unfold decT
        rw [e]
    rw [if_f h3, if_neg h3]
    have h200 : (k = 4 ∨ k = 5) ∧ s.length ≤ 200 := by
      unfold rightB at hr
      rw [if_neg h1, if_neg h0, if_neg (by omega)] at hr
      split at hr
      · rename_i h; have := of_decide_eq_true hr; exact ⟨h, this.2⟩
      · cases hr
    by_cases h5 : k = 5
    · rw [if_t h5, if_pos h5]
      have := text_loop (N := N) (R := Bs × Unit) (k0 := fun v18 _ _ _ => bif room 1 (([120, 39] : Bs).length + v18.length) then bif room 1 (([120, 39] ++ v18).length + ([39] : Bs).length) then some (([120, 39] ++ v18) ++ [39], ()) else none else none)
        (s := s) (by omega) (a := k) (b := n) (c := s) s.length 0 [] N (by omega) (by omega) rfl
      refine this.trans ?_
      have hl := hexs_len s
      rw [List.drop_zero, List.nil_append, cond_t (room_one (by simp; omega)), cond_t (room_one (by simp; omega))]
      rfl
    · rw [if_f h5, if_neg h5, replaceAll_eq N (by omega) (by decide) (by decide), bind_some', rep_dbl]
      have hl := dbl_len s
      dsimp only
      rw [cond_t (room_one (by simp; omega)), cond_t (room_one (by simp; omega))]
      rfl

theorem txt_len {k n : Int} {s : Bs} (hn : I64 n) : (txt k n s).length ≤ 500 := by
  unfold txt
  obtain ⟨n1, n2⟩ := hn
  have hlen := dec_len (u := n.natAbs) (by omega)
  have hs : (sgn n).length ≤ 1 := by unfold sgn; split <;> simp
  split
  · simp
  · rename_i hr
    split
    · simp
    · rename_i h0
      split
      · split <;> simp
      · rename_i h1
        split
        · rw [itoa_eq]; simp; omega
        · rename_i h2
          split
          · unfold decT dotted
            have hp := pad_len (Lib.decDigits n.natAbs)
            simp; omega
          · rename_i h3
            have h200 : s.length ≤ 200 := by
              have hr : rightB k n s = true := by simpa using hr
              unfold rightB at hr
              rw [if_neg h1, if_neg h0, if_neg (by omega)] at hr
              split at hr
              · exact (of_decide_eq_true hr).2
              · cases hr
            have := hexs_len s
            have := dbl_len s
            split <;> simp <;> omega

end Go.Proofs.YtbikfekdakigiaaGreatDoor.E
