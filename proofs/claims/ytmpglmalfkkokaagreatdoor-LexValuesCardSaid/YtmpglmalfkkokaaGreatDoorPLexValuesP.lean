/-
  Plain laws of the pure functions.
  Conditions: those that each statement prints, and no other.
-/
import Derived.Test.YtmpglmalfkkokaaGreatDoorPValTextP
import Derived.Test.YtmpglmalfkkokaaGreatDoorPLLexDP
set_option linter.unusedVariables false
set_option linter.unusedSimpArgs false
/-! A value's text is a token. -/
namespace Go.Proofs.YtmpglmalfkkokaaGreatDoor.E.L
open Go.Ev

theorem nil_isNil : Err.nil.isNil = true := rfl
theorem pad_fig (n : Nat) : ∀ c ∈ pad (Lib.decDigits n), isFig c := by
  intro c hc
  unfold pad at hc
  rcases List.mem_append.1 hc with h | h
  · obtain ⟨_, rfl⟩ := List.mem_replicate.1 h; exact ⟨by decide, by decide⟩
  · exact dec_fig _ c h

theorem fig_of3 {c : UInt8} (h : isFig c) : ofB c = 3 := by
  unfold isFig at h
  unfold ofB
  rw [if_neg (by omega), if_pos h]

theorem figs_spn {a q : Bs} (ha : ∀ c ∈ a, isFig c) (hq : ∀ c, q.head? = some c → isFigB c = false) : spn isFigB (a ++ q) = a.length :=
  spn_of hq (fun c hc => by unfold isFigB; rw [fig_of3 (ha c hc)]; rfl)

theorem barred_nil : barred [] = false := by decide

theorem sgn_pos {n : Int} (h : 0 ≤ n) : sgn n = [] := by unfold sgn; rw [if_neg (by omega)]

theorem next_int {n : Int} (hn : I64 n) (h0 : 0 ≤ n) : nextP (Lib.itoa n) = some (2, (Lib.itoa n, (2, (n, [])))) := by
  have e : Lib.itoa n = Lib.decDigits n.natAbs := by rw [itoa_eq, sgn_pos h0]; rfl
  have hp := parseV_ok (parse_itoa hn)
  rw [e] at hp ⊢
  have hf := dec_fig n.natAbs
  have hne := dec_ne n.natAbs
  generalize hD : Lib.decDigits n.natAbs = D at *
  cases D with
  | nil => exact absurd rfl hne
  | cons c r =>
    have hc := fig_of3 (hf c (by simp))
    have hs := figs_spn (a := c :: r) (q := []) hf (fun _ h => by cases h)
    rw [List.append_nil] at hs
    unfold nextP
    dsimp only
    rw [if_neg (by omega), if_pos hc]
    unfold numP
    dsimp only
    rw [hs, List.drop_length, List.take_length, if_neg (by simp)]
    unfold numEnd
    rw [if_neg (by rw [barred_nil]; simp), hp.2, if_pos nil_isNil, hp.1, List.take_length]

theorem next_dec {n : Int} (hn : I64 n) (h0 : 0 ≤ n) : nextP (decT n) = some (2, (decT n, (3, (n, [])))) := by
  have e : decT n = dotted (pad (Lib.decDigits n.natAbs)) := by unfold decT; rw [sgn_pos h0]; rfl
  have hp : Lib.parseIntB 64 (pad (Lib.decDigits n.natAbs)) = .ok n := by
    have := parse_signed hn (5 - (Lib.decDigits n.natAbs).length)
    rw [sgn_pos h0] at this
    exact this
  have hp := parseV_ok hp
  rw [e]
  have hf := pad_fig n.natAbs
  have h5 := (pad_len (Lib.decDigits n.natAbs)).1
  generalize hP : pad (Lib.decDigits n.natAbs) = P at *
  unfold dotted
  have ha : (P.take (P.length - 4)).length = P.length - 4 := by rw [List.length_take]; omega
  have hb : (P.drop (P.length - 4)).length = 4 := by rw [List.length_drop]; omega
  have hfa : ∀ c ∈ P.take (P.length - 4), isFig c := fun c hc => hf c (List.mem_of_mem_take hc)
  have hfb : ∀ c ∈ P.drop (P.length - 4), isFig c := fun c hc => hf c (List.mem_of_mem_drop hc)
  have hPP : P.take (P.length - 4) ++ P.drop (P.length - 4) = P := List.take_append_drop _ _
  generalize P.take (P.length - 4) = a at *
  generalize P.drop (P.length - 4) = b at *
  have s1 : spn isFigB (a ++ 46 :: b) = a.length := figs_spn hfa (fun c h => by injection h with h; rw [← h]; decide)
  have s2 : spn isFigB b = 4 := by
    have := figs_spn (a := b) (q := []) hfb (fun _ h => by cases h)
    rw [List.append_nil, hb] at this; exact this
  have d1 : (a ++ 46 :: b).drop a.length = 46 :: b := drop_app
  have t1 : (a ++ 46 :: b).take a.length = a := take_app
  have body : numP (a ++ 46 :: b) = some (2, (a ++ 46 :: b, (3, (n, [])))) := by
    unfold numP
    dsimp only
    rw [s1, d1, t1, if_pos ⟨b, rfl⟩, show (46 :: b).drop 1 = b from rfl, s2, if_neg (by omega)]
    have e4 : b.take 4 = b := by rw [← hb, List.take_length]
    have e5 : (46 :: b).drop (1 + 4) = [] := List.drop_eq_nil_of_le (by simp; omega)
    have e6 : a ++ (b.take 4 ++ List.replicate (4 - 4) 48) = P := by rw [e4]; simpa using hPP
    rw [e5, e6]
    unfold numEnd
    have e7 : (a ++ 46 :: b).take (a.length + 1 + 4) = a ++ 46 :: b := List.take_of_length_le (by simp; omega)
    rw [if_neg (by rw [barred_nil]; simp), hp.2, if_pos nil_isNil, hp.1, e7]
  cases a with
  | nil => simp at ha; omega
  | cons c r =>
    have hc := fig_of3 (hfa c (by simp))
    simp only [List.cons_append] at body ⊢
    unfold nextP
    dsimp only
    rw [if_neg (by omega), if_pos hc]
    exact body

theorem qd_dbl : ∀ s : Bs, qd (dbl s ++ [39]) = some (s, (dbl s).length + 1)
  | [] => rfl
  | c :: r => by
    have ih := qd_dbl r
    unfold dbl
    by_cases h : c = 39
    · rw [if_pos h]
      subst h
      show qd (39 :: 39 :: (dbl r ++ [39])) = _
      unfold qd
      rw [if_pos rfl, if_pos rfl, ih]
      rfl
    · rw [if_neg h]
      cases hd : dbl r ++ [39] with
      | nil => simp at hd
      | cons d q =>
        rw [hd] at ih
        show qd (c :: (dbl r ++ [39])) = _
        rw [hd]
        unfold qd
        rw [if_neg h, ih]
        rfl

theorem next_txt {s : Bs} (h : s.length ≤ 200) : nextP (39 :: (dbl s ++ [39])) = some (3, (39 :: (dbl s ++ [39]), (4, (0, s)))) := by
  unfold nextP
  dsimp only
  rw [if_neg (by decide), if_neg (by decide), if_pos rfl]
  unfold textP
  rw [show (39 :: (dbl s ++ [39])).drop 1 = dbl s ++ [39] from rfl, qd_dbl]
  dsimp only
  rw [if_neg (by omega), List.take_of_length_le (by simp)]

theorem hx_fin : ∀ i : Fin 16, hx i.val ≠ 39 ∧ hexV (hx i.val) = (i.val : Int) := by decide
theorem hexB_fin : ∀ a b : Fin 16, hexB (hx a.val) (hx b.val) = UInt8.ofNat (16 * a.val + b.val) := by decide +kernel

theorem qd_hexs : ∀ s : Bs, qd (hexs s ++ [39]) = some (hexs s, (hexs s).length + 1)
  | [] => rfl
  | c :: r => by
    have ih := qd_hexs r
    have hc := c.toNat_lt
    have h1 := (hx_fin ⟨c.toNat / 16, by omega⟩).1
    have h2 := (hx_fin ⟨c.toNat % 16, by omega⟩).1
    cases hd : hexs r ++ [39] with
    | nil => simp at hd
    | cons d q =>
      rw [hd] at ih
      show qd (hx (c.toNat / 16) :: hx (c.toNat % 16) :: (hexs r ++ [39])) = _
      rw [hd]
      unfold qd
      rw [if_neg h1]
      unfold qd
      rw [if_neg h2, ih]
      rfl

theorem hexP_hexs : ∀ s : Bs, hexP (hexs s) = some s
  | [] => rfl
  | c :: r => by
    have hc := c.toNat_lt
    have h1 := (hx_fin ⟨c.toNat / 16, by omega⟩).2
    have h2 := (hx_fin ⟨c.toNat % 16, by omega⟩).2
    have h3 := hexB_fin ⟨c.toNat / 16, by omega⟩ ⟨c.toNat % 16, by omega⟩
    dsimp only at h1 h2 h3
    have e : UInt8.ofNat (16 * (c.toNat / 16) + c.toNat % 16) = c := by
      rw [Nat.div_add_mod]; simp
    show hexP (hx (c.toNat / 16) :: hx (c.toNat % 16) :: hexs r) = _
    unfold hexP
    rw [h1, h2, if_neg (by omega), hexP_hexs r, h3, e]; rfl

theorem next_raw {s : Bs} (h : s.length ≤ 200) : nextP (120 :: 39 :: (hexs s ++ [39])) = some (4, (120 :: 39 :: (hexs s ++ [39]), (5, (0, s)))) := by
  unfold nextP
  dsimp only
  rw [if_pos (by decide), if_pos ⟨⟨_, rfl⟩, .inl rfl⟩]
  unfold rawP
  have hl := hexs_len s
  rw [show (120 :: 39 :: (hexs s ++ [39])).drop 2 = hexs s ++ [39] from rfl, qd_hexs]
  dsimp only
  rw [if_neg (by omega), hexP_hexs, List.take_of_length_le (by simp)]
  rfl

/-- A right value's text is one token, that value's. -/
theorem next_value {k n : Int} {s : Bs} (hn : I64 n) (hr : rightB k n s = true) (hk : 2 ≤ k) (h0 : 0 ≤ n) : ∃ t, nextP (txt k n s) = some (t, (txt k n s, (k, (n, s)))) := by
  unfold txt
  rw [if_neg (by rw [hr]; simp), if_neg (by omega), if_neg (by omega)]
  unfold rightB at hr
  rw [if_neg (by omega), if_neg (by omega)] at hr
  by_cases h2 : k = 2
  · rw [if_pos (.inl h2)] at hr
    rw [if_pos h2, h2, of_decide_eq_true hr]
    exact ⟨_, next_int hn h0⟩
  · by_cases h3 : k = 3
    · rw [if_pos (.inr h3)] at hr
      rw [if_neg h2, if_pos h3, h3, of_decide_eq_true hr]
      exact ⟨_, next_dec hn h0⟩
    · rw [if_neg (by omega)] at hr
      by_cases h4 : k = 4 ∨ k = 5
      · rw [if_pos h4] at hr
        obtain ⟨rfl, hl⟩ := of_decide_eq_true hr
        rw [if_neg h2, if_neg h3]
        rcases h4 with rfl | rfl
        · rw [if_neg (by decide)]; exact ⟨_, next_txt hl⟩
        · rw [if_pos rfl]; exact ⟨_, next_raw hl⟩
      · rw [if_neg h4] at hr; cases hr

theorem step_blank {N : Nat} {R : Type} {k0 : Bs → List TT → Option R} {k1 : Bs → Err → List TT → Option R} {s : Bs} (hs : s.length ≤ 1000) {i : Nat} (hi : i < s.length) {acc : List TT} (hb : ofB s[i] = 1) (f : Nat) :
    lex_Lex_l0 N R k0 k1 (f + 1) s acc (i : Int) = lex_Lex_l0 N R k0 k1 f s acc ((i + 1 : Nat) : Int) := by
  show lex_Lex_l0B N R (lex_Lex_l0 N R k0 k1 f) k0 k1 s acc (i : Int) = _
  unfold lex_Lex_l0B
  rw [if_t (by omega), nth_lt hi, bind_some', of_eq, bind_some']
  dsimp only
  rw [if_t hb, wrap_succ hi (by omega)]

theorem step_tok {N : Nat} (hN : 1000000 < N) {R : Type} {k0 : Bs → List TT → Option R} {k1 : Bs → Err → List TT → Option R} {s : Bs} (hs : s.length ≤ 1000) {i : Nat} (hi : i < s.length) {acc : List TT} (ha : acc.length ≤ 1000) (hb : ofB s[i] ≠ 1) {z : Tk} (hn : nextP (s.drop i) = some z) (f : Nat) :
    lex_Lex_l0 N R k0 k1 (f + 1) s acc (i : Int) = lex_Lex_l0 N R k0 k1 f s (acc ++ [mk z i]) ((i + z.2.1.length : Nat) : Int) := by
  show lex_Lex_l0B N R (lex_Lex_l0 N R k0 k1 f) k0 k1 s acc (i : Int) = _
  unfold lex_Lex_l0B
  rw [if_t (by omega), nth_lt hi, bind_some', of_eq, bind_some']
  dsimp only
  rw [if_f hb, if_t (by omega), Int.toNat_natCast, List.take_length, next_eq hN (by simp; omega) (by simp; omega), bind_some', hn]
  obtain ⟨l1, l2⟩ := next_len hn
  simp only [List.length_drop] at l2
  have hne : ¬ (outT (some z)).2.1 = [] := by
    show ¬ z.2.1 = []
    intro h; rw [h] at l1; simp at l1
  have hlen : (outT (some z)).2.1 = z.2.1 := rfl
  have hw : IntKind.wrap .i64 ((i : Int) + ((outT (some z)).2.1.length : Int)) = ((i + z.2.1.length : Nat) : Int) := by rw [hlen, wrap_i64_id (by omega) (by omega)]; omega
  rw [if_f hne, cond_t (room_of (by simp; omega)), hw]
  rfl

/-- A token, a blank, and more: the fault, if there is one, lies in what is more. -/
theorem Lex_more {N : Nat} (hN : 1000000 < N) {s q : Bs} {z : Tk} (hz : nextP s = some z) (hl : z.2.1.length = s.length) (hs : (s ++ 32 :: q).length ≤ 1000) :
    (∃ l e, lex_Lex N (s ++ 32 :: q) = some (mk z 0 :: (l ++ [e]), (Err.nil, ()))) ∨ ∃ p : Nat, s.length < p ∧ lex_Lex N (s ++ 32 :: q) = some ([], (Err.fault 161 (p : Int) Err.nil, ())) := by
  have hn : nextP (s ++ 32 :: q) = some z := next_cut (q := []) (.inr rfl) (by rw [List.append_nil]; exact hz) hl
  have h1 := (next_len hz).1
  generalize hw : s ++ 32 :: q = w at *
  have hwl : s.length + 1 + q.length = w.length := by rw [← hw]; simp; omega
  have h0 : 0 < w.length := by omega
  have hb : ofB w[0] ≠ 1 := by
    intro hb
    cases w with
    | nil => simp at h0
    | cons c r => rw [next_blank (c := c) hb] at hn; cases hn
  have hi : s.length < w.length := by omega
  have hb2 : ofB w[s.length] = 1 := by
    have : w[s.length] = 32 := by simp [← hw]
    rw [this]; decide
  obtain ⟨f, hf⟩ : ∃ f, N = f + 1 + 1 := ⟨N - 2, by omega⟩
  unfold lex_Lex lex_Lex_cps
  rw [if_f (by omega)]
  have st : ∀ {R : Type} {k0 : Bs → List TT → Option R} {k1 : Bs → Err → List TT → Option R}, lex_Lex_l0 N R k0 k1 N w [] 0 = lex_Lex_l0 N R k0 k1 f w [mk z 0] ((s.length + 1 : Nat) : Int) := by
    intro R k0 k1
    have a1 := step_tok hN (R := R) (k0 := k0) (k1 := k1) hs h0 (acc := []) (by simp) hb (by rw [List.drop_zero]; exact hn) (f + 1)
    have a2 := step_blank (N := N) (R := R) (k0 := k0) (k1 := k1) hs hi (acc := [mk z 0]) hb2 f
    rw [Nat.zero_add, hl] at a1
    have a3 : lex_Lex_l0 N R k0 k1 N w [] 0 = lex_Lex_l0 N R k0 k1 (f + 1 + 1) w [] ((0 : Nat) : Int) := congrArg (fun m => lex_Lex_l0 N R k0 k1 m w [] 0) hf
    rw [a3, a1]
    exact a2
  rw [st]
  rcases lex_loop hN (R := List TT × Err × Unit) (k0 := fun v3 v4 => bif (room 64 (v4.length + ([(6, ([], ((0, (0, ([], ()))), ((v3.length : Int), ()))))] : List TT).length)) then some (v4 ++ [(6, ([], ((0, (0, ([], ()))), ((v3.length : Int), ()))))], (Err.nil, ())) else none)
      (k1 := fun _ v6 _ => some ([], (v6, ()))) (s := w) hs q.length (s.length + 1) [mk z 0] f (by omega) (by omega) (by simp) with ⟨l, hl', hr⟩ | ⟨p, acc', hp, hno, hr⟩
  · refine .inl ⟨l, endT w.length, hr.trans ?_⟩
    have := Lx_len hl'
    simp only [List.length_drop] at this
    rw [cond_t (room_of (by simp; omega))]
    rfl
  · exact .inr ⟨p, by omega, hr⟩

theorem LexValues_all {k n : Int} {s q : Bs} (hn : I64 n) : law16_LexValues big k n s q = some (true, ()) := by
  have ha := alive16
  have hb := big_million
  generalize big = N at ha hb
  unfold law16_LexValues law16_LexValues_cps
  rw [text_eq (by omega) hn, bind_some', right_eq, ha]
  dsimp only
  by_cases h4 : 400 < q.length
  · rw [if_t (by omega)]; rfl
  · rw [if_f (by omega), bind_some']
    dsimp only
    cases hr : rightB k n s with
    | false => rfl
    | true =>
      rw [cond_f (show (!true) = false from rfl)]
      by_cases hk : k < 2
      · rw [if_t hk]; rfl
      · rw [if_f hk]
        by_cases h0 : n < 0
        · rw [if_t h0]; rfl
        · rw [if_f h0]
          have hlen := txt_len (k := k) (n := n) (s := s) hn
          obtain ⟨t, hz⟩ := next_value hn hr (by omega) (by omega)
          generalize txt k n s = w at *
          obtain ⟨n1, n2⟩ := next_len hz
          dsimp only at n1 n2
          have hL : Lx 0 w [mk (t, (w, (k, (n, s)))) 0] := by
            cases w with
            | nil => simp at n1
            | cons c r =>
              refine .tok (fun hc => by rw [next_blank hc] at hz; cases hz) hz ?_
              dsimp only
              rw [List.drop_length]
              exact .nil
          unfold law16_LexValues_j0
          rw [Lex_ok hb (by omega) hL, bind_some']
          dsimp only
          have n0 : nth ([mk (t, (w, (k, (n, s)))) 0] ++ [endT w.length]) 0 = some (mk (t, (w, (k, (n, s)))) 0) := rfl
          rw [cond_f (show (!Err.isNil Err.nil) = false from rfl), cond_f (by simp), n0, bind_some', bind_some', bind_some', cond_f (by simp [mk]), cond_f (by simp [mk]), cond_f (by simp [mk])]
          unfold law16_LexValues_j1
          rw [cond_t (room_one (by simp; omega)), cond_t (room_one (by simp; omega))]
          have e : (w ++ [32]) ++ q = w ++ 32 :: q := by simp
          rw [e, ha]
          rcases Lex_more hb (q := q) hz rfl (by simp; omega) with ⟨l, e, hl⟩ | ⟨p, hp, hl⟩
          · rw [hl, bind_some']
            dsimp only
            rw [cond_f (show (!Err.isNil Err.nil) = false from rfl), bind_some', if_t (by simp; omega)]
            have n0 : nth (mk (t, (w, (k, (n, s)))) 0 :: (l ++ [e])) 0 = some (mk (t, (w, (k, (n, s)))) 0) := rfl
            rw [n0, bind_some']
            simp [mk]
          · rw [hl, bind_some']
            dsimp only
            have hat : fault_At N (Err.fault 161 (p : Int) Err.nil) = some ((p : Int), ()) := rfl
            rw [cond_t (show (!Err.isNil (Err.fault 161 (p : Int) Err.nil)) = true from rfl), bind_some', hat]
            show (bif decide ((w.length : Int) < (p : Int)) then _ else _) = _
            rw [if_t (by omega)]

theorem LexValues_pure_ : LexValues_Pure := fun x h => LexValues_all h.1.2.1

end Go.Proofs.YtmpglmalfkkokaaGreatDoor.E.L

namespace Go.Proofs.YtmpglmalfkkokaaGreatDoor.E
theorem LexValues_pure : LexValues_Pure := L.LexValues_pure_
end Go.Proofs.YtmpglmalfkkokaaGreatDoor.E
