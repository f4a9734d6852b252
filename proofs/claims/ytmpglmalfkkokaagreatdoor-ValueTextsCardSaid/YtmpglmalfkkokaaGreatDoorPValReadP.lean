/-
  Plain laws of the pure functions.
  Conditions: those that each statement prints, and no other.
-/
import Derived.Test.YtmpglmalfkkokaaGreatDoorPValTextP
set_option linter.unusedVariables false
set_option linter.unusedSimpArgs false
/-! What a text is read as. -/
namespace Go.Proofs.YtmpglmalfkkokaaGreatDoor.E
open Go.Ev

/-- Two figures as one byte, as the program reckons. -/
def unhex (a b : UInt8) : UInt8 := UInt8.ofNat (Int.toNat (IntKind.wrap .u8 (Ev.bits .or .i64 (Ev.shl .i64 (Lib.indexByte hexTab a) 4) (Ev.bits .and .i64 (Lib.indexByte hexTab b) 15))))
def unhexs : Bs → Bs
  | a :: b :: r => unhex a b :: unhexs r
  | _ => []

theorem unhex_fin : ∀ a b : Fin 16, unhex (hx a.val) (hx b.val) = UInt8.ofNat (16 * a.val + b.val) := by decide +kernel
theorem unhex_hx (c : UInt8) : unhex (hx (c.toNat / 16)) (hx (c.toNat % 16)) = c := by
  have hc := c.toNat_lt
  have := unhex_fin ⟨c.toNat / 16, by omega⟩ ⟨c.toNat % 16, by omega⟩
  dsimp only at this
  rw [this, Nat.div_add_mod]
  simp
theorem unhexs_hexs : ∀ s : Bs, unhexs (hexs s) = s
  | [] => rfl
  | c :: r => by simp only [hexs, unhexs, unhex_hx, unhexs_hexs r]

/-- What a text is that is no word and stands not between quotes. -/
def numG (s : Bs) : Int × Int × Bs :=
  let f (k : Int) (t : Bs) : Int × Int × Bs := if (parseE t).isNil then (k, (parseV t, [])) else (0, (1, []))
  if 5 < s.length ∧ s[s.length - 5]? = some 46 then f 3 (s.take (s.length - 5) ++ s.drop (s.length - 4)) else f 2 s

/-- What a text may be of. -/
def gss (s : Bs) : Int × Int × Bs :=
  if s = [110, 117, 108, 108] then (0, (0, []))
  else if s = [116, 114, 117, 101] then (1, (1, []))
  else if s = [102, 97, 108, 115, 101] then (1, (0, []))
  else if [120, 39] <+: s ∧ [39] <:+ s.drop 2 then (5, (0, unhexs ((s.take (s.length - 1)).drop 2)))
  else if [39] <+: s ∧ [39] <:+ s.drop 1 then (4, (0, Lib.replaceAll ((s.take (s.length - 1)).drop 1) [39, 39] [39]))
  else numG s

theorem hasSuffix_eq (N : Nat) {s p : Bs} (hl : s.length ≤ 1000000) : stringslite_HasSuffix N s p = some (decide (p <:+ s), ()) := by
  unfold stringslite_HasSuffix stringslite_HasSuffix_cps
  by_cases h : p.length ≤ s.length
  · have hw : IntKind.wrap .i64 ((s.length : Int) - (p.length : Int)) = ((s.length - p.length : Nat) : Int) := by rw [wrap_i64_id (by omega) (by omega)]; omega
    rw [hw, if_t (by omega), if_t (by omega)]
    have : (List.drop (s.length - p.length) s = p) ↔ (p <:+ s) := ⟨fun e => by rw [← e]; exact List.drop_suffix _ _, fun e => (List.suffix_iff_eq_drop.1 e).symm⟩
    simp [this]
  · rw [if_f (by omega)]
    have : ¬ p <:+ s := fun e => h e.length_le
    simp [this]

theorem parse_eq (N : Nat) {s : Bs} (hl : s.length ≤ 1000000) : strconv_ParseInt N s 10 64 = some (parseV s, (parseE s, ())) := by
  unfold strconv_ParseInt strconv_ParseInt_cps
  rw [if_t ⟨rfl, rfl, by omega⟩]

theorem indexByte_eq (N : Nat) (s : Bs) (c : UInt8) : strings_IndexByte N s (c.toNat : Int) = some (Lib.indexByte s c, ()) := by
  unfold strings_IndexByte strings_IndexByte_cps stringslite_IndexByte stringslite_IndexByte_cps bytealg_IndexByteString bytealg_IndexByteString_cps
  simp

theorem guess_loop {N : Nat} {R : Type} {k0 : Bs → Bs → Int → Int → Bs → Int → Int → Bs → Option R} {s : Bs} {a b : Int} {c : Bs} {d e : Int} {f : Bs} : ∀ (fuel : Nat) (t acc : Bs), t.length < fuel → acc.length + t.length ≤ 1000000 →
    value_guess_l2 N R k0 fuel s acc t a b c d e f = k0 s (acc ++ unhexs t) a b c d e f
  | 0, t, acc, h, _ => absurd h (Nat.not_lt_zero _)
  | fuel + 1, [], acc, h, hl => by
    show value_guess_l2B N R _ k0 s acc [] a b c d e f = _
    unfold value_guess_l2B
    rw [if_f (by simp)]
    simp [unhexs]
  | fuel + 1, [x], acc, h, hl => by
    show value_guess_l2B N R _ k0 s acc [x] a b c d e f = _
    unfold value_guess_l2B
    rw [if_f (by simp)]
    simp [unhexs]
  | fuel + 1, x :: y :: r, acc, h, hl => by
    show value_guess_l2B N R (value_guess_l2 N R k0 fuel) k0 s acc (x :: y :: r) a b c d e f = _
    simp only [List.length_cons] at h hl
    unfold value_guess_l2B
    have h0 : nth (x :: y :: r) 0 = some x := rfl
    have h1 : nth (x :: y :: r) 1 = some y := rfl
    rw [if_t (by simp; omega), h0, bind_some']
    show (Option.bind (strings_IndexByte N hexTab (x.toNat : Int)) _) = _
    rw [indexByte_eq, bind_some', h1, bind_some']
    show (Option.bind (strings_IndexByte N hexTab (y.toNat : Int)) _) = _
    rw [indexByte_eq, bind_some', cond_t (room_one (by simp; omega)), if_t (by simp; omega)]
    have e2 : List.drop 2 (List.take (x :: y :: r).length (x :: y :: r)) = r := by simp
    rw [e2, guess_loop fuel r _ (by omega) (by simp; omega)]
    simp [unhexs, unhex]

theorem guess_num {N : Nat} {R : Type} {k0 : Bs → Int → Int → Bs → Int → Int → Bs → Option R} {s : Bs} (hl : s.length ≤ 1000000) {a b : Int} {c : Bs} {r : Option R}
    (h : ∀ t, k0 t (numG s).1 (numG s).2.1 (numG s).2.2 0 1 [] = r) : value_guess_j3 N R k0 s a b c 0 1 [] = r := by
  have j4 : ∀ (t : Bs) (k : Int), t.length ≤ 1000000 → numG s = (if (parseE t).isNil then (k, (parseV t, [])) else (0, (1, []))) → value_guess_j4 N R k0 t k a b c 0 1 [] = r := by
    intro t k ht hk
    unfold value_guess_j4
    rw [parse_eq N ht, bind_some']
    cases hn : (parseE t).isNil with
    | true =>
      rw [hn, if_pos rfl] at hk
      have := h t
      rw [hk] at this
      exact this
    | false =>
      rw [hn, if_neg (by simp)] at hk
      have := h t
      rw [hk] at this
      exact this
  unfold value_guess_j3
  have hw : IntKind.wrap .i64 ((s.length : Int) - 5) = (s.length : Int) - 5 := wrap_i64_id (by omega) (by omega)
  rw [hw]
  by_cases h5 : 5 < s.length
  · have hw2 : (s.length : Int) - 5 = ((s.length - 5 : Nat) : Int) := by omega
    rw [if_t (by omega), hw2, nth_lt (by omega), bind_some']
    by_cases hd : s[s.length - 5] = 46
    · have hd2 : s[s.length - 5]? = some 46 := by rw [List.getElem?_eq_getElem (by omega), hd]
      have hw3 : IntKind.wrap .i64 (((s.length - 5 : Nat) : Int) + 1) = ((s.length - 4 : Nat) : Int) := by rw [wrap_i64_id (by omega) (by omega)]; omega
      rw [if_t (by rw [hd]; rfl), if_t (by omega), hw3, if_t (by omega)]
      simp only [Int.toNat_natCast, List.drop_zero, List.take_length]
      rw [cond_t (room_one (by simp; omega))]
      refine j4 _ 3 (by simp; omega) ?_
      unfold numG
      rw [if_pos ⟨h5, hd2⟩]
    · have hd2 : ¬ s[s.length - 5]? = some 46 := by rw [List.getElem?_eq_getElem (by omega)]; simpa using hd
      rw [if_f (by intro e; apply hd; apply UInt8.toNat_inj.1; show _ = 46; omega)]
      refine j4 _ 2 hl ?_
      unfold numG
      rw [if_neg (fun h => hd2 h.2)]
  · rw [if_f (by omega)]
    refine j4 _ 2 hl ?_
    unfold numG
    rw [if_neg (fun h => h5 h.1)]

theorem sprefix_eq (N : Nat) {s p : Bs} : strings_HasPrefix N s p = some (decide (p <+: s), ()) := by
  unfold strings_HasPrefix strings_HasPrefix_cps; rw [hasPrefix_eq]; rfl
theorem ssuffix_eq (N : Nat) {s p : Bs} (hl : s.length ≤ 1000000) : strings_HasSuffix N s p = some (decide (p <:+ s), ()) := by
  unfold strings_HasSuffix strings_HasSuffix_cps; rw [hasSuffix_eq N hl]; rfl

theorem guess_eq {N : Nat} (hN : 1000000 < N) {s : Bs} (hl : s.length ≤ 1000000) : value_guess N s = some ((gss s).1, ((gss s).2.1, ((gss s).2.2, ()))) := by
  unfold value_guess value_guess_cps
  by_cases h1 : s = [110, 117, 108, 108]
  · rw [if_t h1]; unfold gss; rw [if_pos h1]
  rw [if_f h1]
  by_cases h2 : s = [116, 114, 117, 101]
  · rw [if_t h2]; unfold gss value_guess_j0; rw [if_neg h1, if_pos h2]; simp [h2]
  rw [if_f h2]
  unfold value_guess_j0
  by_cases h3 : s = [102, 97, 108, 115, 101]
  · rw [if_t h3, if_f h2]; unfold gss; rw [if_neg h1, if_neg h2, if_pos h3]
  rw [if_f h3, sprefix_eq, bind_some']
  have g0 : gss s = if [120, 39] <+: s ∧ [39] <:+ s.drop 2 then (5, (0, unhexs ((s.take (s.length - 1)).drop 2)))
      else if [39] <+: s ∧ [39] <:+ s.drop 1 then (4, (0, Lib.replaceAll ((s.take (s.length - 1)).drop 1) [39, 39] [39]))
      else numG s := by unfold gss; rw [if_neg h1, if_neg h2, if_neg h3]
  have hw : ∀ k : Nat, k + 1 ≤ s.length → IntKind.wrap .i64 ((s.length : Int) - 1) = ((s.length - 1 : Nat) : Int) := fun k hk => by rw [wrap_i64_id (by omega) (by omega)]; omega
  have suf_len : ∀ k, ([39] : Bs) <:+ s.drop k → k + 1 ≤ s.length := fun k h => by have := h.length_le; simp at this; omega
  -- what stands between quotes, or a number
  have tail : ∀ {R : Type} {k0 k1 : Bs → Int → Int → Bs → Int → Int → Bs → Option R} {r : Option R} {a b : Int} {c : Bs}, ¬ ([120, 39] <+: s ∧ [39] <:+ s.drop 2) →
      (∀ a b c, k0 s a b c 0 1 [] = value_guess_j3 N R (fun _ v10 v11 v12 v13 v14 v15 => k1 s v10 v11 v12 v13 v14 v15) s a b c 0 1 []) →
      (∀ t, k1 t (gss s).1 (gss s).2.1 (gss s).2.2 0 1 [] = r) → value_guess_j1 N R k0 k1 s false a b c 0 1 [] = r := by
    intro R k0 k1 r a b c hx hk0 hr
    unfold value_guess_j1
    rw [cond_f rfl, sprefix_eq, bind_some']
    by_cases h4 : ([39] : Bs) <+: s
    · have hl1 := h4.length_le
      simp only [List.length_cons, List.length_nil] at hl1
      dsimp only
      rw [if_t h4, if_t (by omega), List.take_length, ssuffix_eq N (by simp; omega), bind_some']
      by_cases h5 : ([39] : Bs) <:+ s.drop 1
      · have hl2 := suf_len 1 h5
        dsimp only
        rw [if_t h5, hw 1 hl2, if_t (by omega), if_t (by simp; omega)]
        simp only [Int.toNat_natCast]
        rw [replaceAll_eq N (by simp; omega) (by decide) (by decide), bind_some']
        have := hr s
        rw [g0, if_neg hx, if_pos ⟨h4, h5⟩] at this
        exact this
      · dsimp only
        rw [if_f h5, hk0]
        refine guess_num hl fun t => ?_
        have := hr s
        rw [g0, if_neg hx, if_neg (fun h => h5 h.2)] at this
        exact this
    · dsimp only
      rw [if_f h4, hk0]
      refine guess_num hl fun t => ?_
      have := hr s
      rw [g0, if_neg hx, if_neg (fun h => h4 h.1)] at this
      exact this
  by_cases h4 : ([120, 39] : Bs) <+: s
  · have hl1 := h4.length_le
    simp only [List.length_cons, List.length_nil] at hl1
    dsimp only
    rw [if_t h4, if_t (by omega), List.take_length, ssuffix_eq N (by simp; omega), bind_some']
    by_cases h5 : ([39] : Bs) <:+ s.drop 2
    · have hl2 := suf_len 2 h5
      dsimp only
      unfold value_guess_j1
      rw [if_t h5, hw 2 hl2, if_t (by omega), if_t (by simp; omega)]
      simp only [Int.toNat_natCast]
      rw [guess_loop N _ [] (by simp; omega) (by simp; omega), g0, if_pos ⟨h4, h5⟩]
      rfl
    · dsimp only
      rw [dec_f h5]
      exact tail (k1 := fun v37 v38 v39 v40 v41 v42 v43 => some (v38, (v39, (v40, ())))) (fun h => h5 h.2) (fun a b c => rfl) (fun t => rfl)
  · dsimp only
    rw [if_f h4]
    exact tail (k1 := fun v37 v38 v39 v40 v41 v42 v43 => some (v38, (v39, (v40, ())))) (fun h => h4 h.1) (fun a b c => rfl) (fun t => rfl)

end Go.Proofs.YtmpglmalfkkokaaGreatDoor.E
