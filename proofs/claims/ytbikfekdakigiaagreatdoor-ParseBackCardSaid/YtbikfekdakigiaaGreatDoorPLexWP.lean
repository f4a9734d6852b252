/-
  Plain laws of the pure functions.
  Conditions: those that each statement prints, and no other.
-/
import Derived.Test.YtbikfekdakigiaaGreatDoorPValTextP
import Derived.Test.YtbikfekdakigiaaGreatDoorPQLexDP
set_option linter.unusedVariables false
set_option linter.unusedSimpArgs false
/-! What is written is a row of tokens. -/
namespace Go.Proofs.YtbikfekdakigiaaGreatDoor.E.L
open Go.Ev

theorem nil_isNil : Err.nil.isNil = true := rfl
theorem pad_fig (n : Nat) : ∀ c ∈ pad (Lib.decDigits n), isFig c := by
  intro c hc
  unfold pad at hc
  rcases List.mem_append.1 hc with h | h
  · obtain ⟨_, rfl⟩ := List.mem_replicate.1 h; exact ⟨by decide, by decide⟩
  · exact dec_fig _ c h

theorem fig_of3 {c : UInt8} (h : isFig c) : ofB c = 3 := by
  unfold isFig at h
  unfold ofB
  rw [if_neg (by omega), if_pos h]

theorem figs_spn {a q : Bs} (ha : ∀ c ∈ a, isFig c) (hq : ∀ c, q.head? = some c → isFigB c = false) : spn isFigB (a ++ q) = a.length :=
  spn_of hq (fun c hc => by unfold isFigB; rw [fig_of3 (ha c hc)]; rfl)

theorem barred_nil : barred [] = false := by decide

theorem sgn_pos {n : Int} (h : 0 ≤ n) : sgn n = [] := by unfold sgn; rw [if_neg (by omega)]

theorem next_int {n : Int} (hn : I64 n) (h0 : 0 ≤ n) : nextP (Lib.itoa n) = some (2, (Lib.itoa n, (2, (n, [])))) := by
  have e : Lib.itoa n = Lib.decDigits n.natAbs := by rw [itoa_eq, sgn_pos h0]; rfl
  have hp := parseV_ok (parse_itoa hn)
  rw [e] at hp ⊢
  have hf := dec_fig n.natAbs
  have hne := dec_ne n.natAbs
  generalize hD : Lib.decDigits n.natAbs = D at *
  cases D with
  | nil => exact absurd rfl hne
  | cons c r =>
    have hc := fig_of3 (hf c (by simp))
    have hs := figs_spn (a := c :: r) (q := []) hf (fun _ h => by cases h)
    rw [List.append_nil] at hs
    unfold nextP
    dsimp only
    rw [if_neg (by omega), if_pos hc]
    unfold numP
    dsimp only
    rw [hs, List.drop_length, List.take_length, if_neg (by simp)]
    unfold numEnd
    rw [if_neg (by rw [barred_nil]; simp), hp.2, if_pos nil_isNil, hp.1, List.take_length]

theorem next_dec {n : Int} (hn : I64 n) (h0 : 0 ≤ n) : nextP (decT n) = some (2, (decT n, (3, (n, [])))) := by
  have e : decT n = dotted (pad (Lib.decDigits n.natAbs)) := by unfold decT; rw [sgn_pos h0]; rfl
  have hp : Lib.parseIntB 64 (pad (Lib.decDigits n.natAbs)) = .ok n := by
    have := parse_signed hn (5 - (Lib.decDigits n.natAbs).length)
    rw [sgn_pos h0] at this
    exact this
  have hp := parseV_ok hp
  rw [e]
  have hf := pad_fig n.natAbs
  have h5 := (pad_len (Lib.decDigits n.natAbs)).1
  generalize hP : pad (Lib.decDigits n.natAbs) = P at *
  unfold dotted
  have ha : (P.take (P.length - 4)).length = P.length - 4 := by rw [List.length_take]; omega
  have hb : (P.drop (P.length - 4)).length = 4 := by rw [List.length_drop]; omega
  have hfa : ∀ c ∈ P.take (P.length - 4), isFig c := fun c hc => hf c (List.mem_of_mem_take hc)
  have hfb : ∀ c ∈ P.drop (P.length - 4), isFig c := fun c hc => hf c (List.mem_of_mem_drop hc)
  have hPP : P.take (P.length - 4) ++ P.drop (P.length - 4) = P := List.take_append_drop _ _
  generalize P.take (P.length - 4) = a at *
  generalize P.drop (P.length - 4) = b at *
  have s1 : spn isFigB (a ++ 46 :: b) = a.length := figs_spn hfa (fun c h => by injection h with h; rw [← h]; decide)
  have s2 : spn isFigB b = 4 := by
    have := figs_spn (a := b) (q := []) hfb (fun _ h => by cases h)
    rw [List.append_nil, hb] at this; exact this
  have d1 : (a ++ 46 :: b).drop a.length = 46 :: b := drop_app
  have t1 : (a ++ 46 :: b).take a.length = a := take_app
  have body : numP (a ++ 46 :: b) = some (2, (a ++ 46 :: b, (3, (n, [])))) := by
    unfold numP
    dsimp only
    rw [s1, d1, t1, if_pos ⟨b, rfl⟩, show (46 :: b).drop 1 = b from rfl, s2, if_neg (by omega)]
    have e4 : b.take 4 = b := by rw [← hb, List.take_length]
    have e5 : (46 :: b).drop (1 + 4) = [] := List.drop_eq_nil_of_le (by simp; omega)
    have e6 : a ++ (b.take 4 ++ List.replicate (4 - 4) 48) = P := by rw [e4]; simpa using hPP
    rw [e5, e6]
    unfold numEnd
    have e7 : (a ++ 46 :: b).take (a.length + 1 + 4) = a ++ 46 :: b := List.take_of_length_le (by simp; omega)
    rw [if_neg (by rw [barred_nil]; simp), hp.2, if_pos nil_isNil, hp.1, e7]
  cases a with
  | nil => simp at ha; omega
  | cons c r =>
    have hc := fig_of3 (hfa c (by simp))
    simp only [List.cons_append] at body ⊢
    unfold nextP
    dsimp only
    rw [if_neg (by omega), if_pos hc]
    exact body

theorem qd_dbl : ∀ s : Bs, qd (dbl s ++ [39]) = some (s, (dbl s).length + 1)
  | [] => rfl
  | c :: r => by
    have ih := qd_dbl r
    unfold dbl
    by_cases h : c = 39
    · rw [if_pos h]
      subst h
      show qd (39 :: 39 :: (dbl r ++ [39])) = _
      unfold qd
      rw [if_pos rfl, if_pos rfl, ih]
      rfl
    · rw [if_neg h]
      cases hd : dbl r ++ [39] with
      | nil => simp at hd
      | cons d q =>
        rw [hd] at ih
        show qd (c :: (dbl r ++ [39])) = _
        rw [hd]
        unfold qd
        rw [if_neg h, ih]
        rfl

theorem next_txt {s : Bs} (h : s.length ≤ 200) : nextP (39 :: (dbl s ++ [39])) = some (3, (39 :: (dbl s ++ [39]), (4, (0, s)))) := by
  unfold nextP
  dsimp only
  rw [if_neg (by decide), if_neg (by decide), if_pos rfl]
  unfold textP
  rw [show (39 :: (dbl s ++ [39])).drop 1 = dbl s ++ [39] from rfl, qd_dbl]
  dsimp only
  rw [if_neg (by omega), List.take_of_length_le (by simp)]

theorem hx_fin : ∀ i : Fin 16, hx i.val ≠ 39 ∧ hexV (hx i.val) = (i.val : Int) := by decide
theorem hexB_fin : ∀ a b : Fin 16, hexB (hx a.val) (hx b.val) = UInt8.ofNat (16 * a.val + b.val) := by decide +kernel

theorem qd_hexs : ∀ s : Bs, qd (hexs s ++ [39]) = some (hexs s, (hexs s).length + 1)
  | [] => rfl
  | c :: r => by
    have ih := qd_hexs r
    have hc := c.toNat_lt
    have h1 := (hx_fin ⟨c.toNat / 16, by omega⟩).1
    have h2 := (hx_fin ⟨c.toNat % 16, by omega⟩).1
    cases hd : hexs r ++ [39] with
    | nil => simp at hd
    | cons d q =>
      rw [hd] at ih
      show qd (hx (c.toNat / 16) :: hx (c.toNat % 16) :: (hexs r ++ [39])) = _
      rw [hd]
      unfold qd
      rw [if_neg h1]
      unfold qd
      rw [if_neg h2, ih]
      rfl

theorem hexP_hexs : ∀ s : Bs, hexP (hexs s) = some s
  | [] => rfl
  | c :: r => by
    have hc := c.toNat_lt
    have h1 := (hx_fin ⟨c.toNat / 16, by omega⟩).2
    have h2 := (hx_fin ⟨c.toNat % 16, by omega⟩).2
    have h3 := hexB_fin ⟨c.toNat / 16, by omega⟩ ⟨c.toNat % 16, by omega⟩
    dsimp only at h1 h2 h3
    have e : UInt8.ofNat (16 * (c.toNat / 16) + c.toNat % 16) = c := by
      rw [Nat.div_add_mod]; simp
    show hexP (hx (c.toNat / 16) :: hx (c.toNat % 16) :: hexs r) = _
    unfold hexP
    rw [h1, h2, if_neg (by omega), hexP_hexs r, h3, e]; rfl

theorem next_raw {s : Bs} (h : s.length ≤ 200) : nextP (120 :: 39 :: (hexs s ++ [39])) = some (4, (120 :: 39 :: (hexs s ++ [39]), (5, (0, s)))) := by
  unfold nextP
  dsimp only
  rw [if_pos (by decide), if_pos ⟨⟨_, rfl⟩, .inl rfl⟩]
  unfold rawP
  have hl := hexs_len s
  rw [show (120 :: 39 :: (hexs s ++ [39])).drop 2 = hexs s ++ [39] from rfl, qd_hexs]
  dsimp only
  rw [if_neg (by omega), hexP_hexs, List.take_of_length_le (by simp)]
  rfl

/-- A right value's text is one token, that value's. -/
theorem next_value {k n : Int} {s : Bs} (hn : I64 n) (hr : rightB k n s = true) (hk : 2 ≤ k) (h0 : 0 ≤ n) : ∃ t, nextP (txt k n s) = some (t, (txt k n s, (k, (n, s)))) := by
  unfold txt
  rw [if_neg (by rw [hr]; simp), if_neg (by omega), if_neg (by omega)]
  unfold rightB at hr
  rw [if_neg (by omega), if_neg (by omega)] at hr
  by_cases h2 : k = 2
  · rw [if_pos (.inl h2)] at hr
    rw [if_pos h2, h2, of_decide_eq_true hr]
    exact ⟨_, next_int hn h0⟩
  · by_cases h3 : k = 3
    · rw [if_pos (.inr h3)] at hr
      rw [if_neg h2, if_pos h3, h3, of_decide_eq_true hr]
      exact ⟨_, next_dec hn h0⟩
    · rw [if_neg (by omega)] at hr
      by_cases h4 : k = 4 ∨ k = 5
      · rw [if_pos h4] at hr
        obtain ⟨rfl, hl⟩ := of_decide_eq_true hr
        rw [if_neg h2, if_neg h3]
        rcases h4 with rfl | rfl
        · rw [if_neg (by decide)]; exact ⟨_, next_txt hl⟩
        · rw [if_pos rfl]; exact ⟨_, next_raw hl⟩
      · rw [if_neg h4] at hr; cases hr


/-! ### Texts one behind another -/

/-- Behind it stands nothing, or a byte that ends a token. -/
def Rt (rest : Bs) : Prop := ∀ c, rest.head? = some c → Sep c

theorem Rt.nil : Rt [] := fun _ h => by cases h
theorem Rt.cons {c : UInt8} {r : Bs} (h : Sep c) : Rt (c :: r) := fun d e => by injection e with e; exact e ▸ h

theorem Rt.fits {rest : Bs} (h : Rt rest) : Fits [] rest := by
  cases rest with
  | nil => exact .inl rfl
  | cons c r => exact .inr ⟨c, rfl, h c rfl⟩

theorem lx_raw {i : Nat} {w rest : Bs} {z : Tk} {l : List TT} (hb : ∀ c, w.head? = some c → ofB c ≠ 1) (hn : nextP (w ++ rest) = some z) (hl : z.2.1.length = w.length) (h : Lx (i + w.length) rest l) : Lx i (w ++ rest) (mk z i :: l) := by
  cases w with
  | nil => have := (next_len hn).1; rw [hl] at this; simp at this
  | cons c r =>
    refine .tok (hb c rfl) hn ?_
    rw [hl]
    show Lx _ (((c :: r) ++ rest).drop (c :: r).length) l
    rw [drop_app]
    exact h

theorem lx_tok {i : Nat} {w rest : Bs} {z : Tk} {l : List TT} (hb : ∀ c, w.head? = some c → ofB c ≠ 1) (hn : nextP w = some z) (hl : z.2.1.length = w.length) (hr : Rt rest) (h : Lx (i + w.length) rest l) : Lx i (w ++ rest) (mk z i :: l) :=
  lx_raw hb (next_cut (q := []) hr.fits (by rw [List.append_nil]; exact hn) hl) hl h

def sg (w : Bs) : Tk := (5, (w, (0, (0, []))))
def wd (w : Bs) : Tk := (1, (w, (0, (0, []))))

theorem next_one {c : UInt8} (h : c = 40 ∨ c = 41 ∨ c = 42 ∨ c = 46) (r : Bs) : nextP (c :: r) = some (sg [c]) := by
  rcases h with rfl | rfl | rfl | rfl <;> simp [nextP, ofB, signP, List.cons_prefix_cons, signs, Lib.indexByte, sg]

theorem lx_one {i : Nat} {c : UInt8} (h : c = 40 ∨ c = 41 ∨ c = 42 ∨ c = 46) {rest : Bs} {l : List TT} (hx : Lx (i + 1) rest l) : Lx i (c :: rest) (mk (sg [c]) i :: l) :=
  lx_raw (w := [c]) (fun d e => by injection e with e; subst e; rcases h with rfl | rfl | rfl | rfl <;> decide) (next_one h rest) rfl hx

theorem lx_blank {i : Nat} {rest : Bs} {l : List TT} (hx : Lx (i + 1) rest l) : Lx i (32 :: rest) l := .blank (by decide) hx

/-- A row of bytes that is the tokens T, whatever stands behind it. -/
def Txs (i : Nat) (w : Bs) (T : List TT) : Prop := ∀ (rest : Bs) (l : List TT), Rt rest → Lx (i + w.length) rest l → Lx i (w ++ rest) (T ++ l)
/-- The same, of what may stand before anything. -/
def Txa (i : Nat) (w : Bs) (T : List TT) : Prop := ∀ (rest : Bs) (l : List TT), Lx (i + w.length) rest l → Lx i (w ++ rest) (T ++ l)

theorem Txa.txs {i : Nat} {w : Bs} {T : List TT} (h : Txa i w T) : Txs i w T := fun rest l _ hx => h rest l hx

theorem txs_tok {i : Nat} {w : Bs} {z : Tk} (hb : ∀ c, w.head? = some c → ofB c ≠ 1) (hn : nextP w = some z) (hl : z.2.1.length = w.length) : Txs i w [mk z i] := fun _ _ hr h => lx_tok hb hn hl hr h

theorem txa_one {i : Nat} {c : UInt8} (h : c = 40 ∨ c = 41 ∨ c = 42 ∨ c = 46) : Txa i [c] [mk (sg [c]) i] := fun _ _ hx => lx_one h hx
theorem txa_blank {i : Nat} : Txa i [32] [] := fun _ _ hx => lx_blank hx

theorem Txa.app {i : Nat} {w v : Bs} {T U : List TT} (h : Txa i w T) (h' : Txa (i + w.length) v U) : Txa i (w ++ v) (T ++ U) := fun rest l hx => by
  rw [List.append_assoc, List.append_assoc]
  exact h _ _ (h' _ _ (by rw [List.length_append, ← Nat.add_assoc] at hx; exact hx))

theorem Txa.apps {i : Nat} {w v : Bs} {T U : List TT} (h : Txa i w T) (h' : Txs (i + w.length) v U) : Txs i (w ++ v) (T ++ U) := fun rest l hr hx => by
  rw [List.append_assoc, List.append_assoc]
  exact h _ _ (h' _ _ hr (by rw [List.length_append, ← Nat.add_assoc] at hx; exact hx))

/-- Behind it stands something that begins with a byte that ends a token. -/
theorem Txs.app {i : Nat} {w v : Bs} {T U : List TT} (h : Txs i w T) (h' : Txa (i + w.length) v U) {c : UInt8} (hv : v.head? = some c) (hc : Sep c) : Txa i (w ++ v) (T ++ U) := fun rest l hx => by
  rw [List.append_assoc, List.append_assoc]
  refine h _ _ ?_ (h' _ _ (by rw [List.length_append, ← Nat.add_assoc] at hx; exact hx))
  cases v with
  | nil => cases hv
  | cons d r => injection hv with e; subst e; exact .cons hc

theorem Txs.apps {i : Nat} {w v : Bs} {T U : List TT} (h : Txs i w T) (h' : Txs (i + w.length) v U) {c : UInt8} (hv : v.head? = some c) (hc : Sep c) : Txs i (w ++ v) (T ++ U) := fun rest l hr hx => by
  rw [List.append_assoc, List.append_assoc]
  refine h _ _ ?_ (h' _ _ hr (by rw [List.length_append, ← Nat.add_assoc] at hx; exact hx))
  cases v with
  | nil => cases hv
  | cons d r => injection hv with e; subst e; exact .cons hc

/-- In brackets. -/
theorem txa_br {i : Nat} {w : Bs} {T : List TT} (h : Txs (i + 1) w T) : Txa i (40 :: (w ++ [41])) (mk (sg [40]) i :: (T ++ [mk (sg [41]) (i + (1 + w.length))])) := by
  have a := txa_one (i := i) (c := 40) (.inl rfl)
  have b := Txs.app h (txa_one (i := i + 1 + w.length) (c := 41) (.inr (.inl rfl))) rfl (.inr (.inr rfl))
  have := Txa.app a b
  rw [Nat.add_assoc] at this
  exact this

theorem Lx_of {w : Bs} {T : List TT} (h : Txs 0 w T) : Lx 0 w T := by
  have := h [] [] .nil (.nil)
  rw [List.append_nil, List.append_nil] at this; exact this

end Go.Proofs.YtbikfekdakigiaaGreatDoor.E.L
