/-
  Plain laws of the pure functions.
  Conditions: those that each statement prints, and no other.
-/
import Derived.Test.YtmpglmalfkkokaaDoorPLexJoinedP
set_option linter.unusedVariables false
set_option linter.unusedSimpArgs false
/-! Great and small letters. -/
namespace Go.Proofs.YtmpglmalfkkokaaDoor.E
open Go.Ev

/-- A small letter's great one. -/
def upB (c : UInt8) : UInt8 := if 97 ≤ c.toNat ∧ c.toNat ≤ 122 then UInt8.ofNat (Int.toNat (IntKind.wrap .u8 ((c.toNat : Int) - 32))) else c

theorem upB_nat {c : UInt8} (h : 97 ≤ c.toNat ∧ c.toNat ≤ 122) : (upB c).toNat = c.toNat - 32 := by
  unfold upB
  rw [if_pos h, wrap_u8_id (by omega) (by omega)]
  have : Int.toNat ((c.toNat : Int) - 32) = c.toNat - 32 := by omega
  rw [this]
  simp
  omega

/-- A byte that may stand in such a text. -/
def okB (c : UInt8) : Prop := c.toNat = 32 ∨ c.toNat = 95 ∨ (97 ≤ c.toNat ∧ c.toNat ≤ 122)

/-- Words of small letters; b: a word may begin here. -/
def wok : Bool → Bs → Prop
  | _, [] => True
  | b, c :: r => okB c ∧ (b = true → c.toNat ≠ 95) ∧ wok (decide (c.toNat = 32)) r

/-- How many words begin. -/
def wn : Bool → Bs → Nat
  | _, [] => 0
  | b, c :: r => (if b = true ∧ c.toNat ≠ 32 then 1 else 0) + wn (decide (c.toNat = 32)) r

theorem okB_not {c : UInt8} (h : okB c) (h32 : c.toNat ≠ 32) : isPartB c = true ∧ isPartB (upB c) = true ∧ Lib.lowerB (upB c) = Lib.lowerB c ∧ (c.toNat ≠ 95 → ofB c = 2 ∧ ofB (upB c) = 2) := by
  rcases h with h | h | h
  · exact absurd h h32
  · have e : upB c = c := by unfold upB; rw [if_neg (by omega)]
    rw [e]
    have : isPartB c = true := by
      unfold isPartB ofB
      rw [if_neg (by omega), if_neg (by omega), if_neg (by omega), if_pos h]; rfl
    exact ⟨this, this, rfl, fun h' => absurd h h'⟩
  · have hu := upB_nat h
    have e1 : ofB c = 2 := by unfold ofB; rw [if_pos (.inl h)]
    have e2 : ofB (upB c) = 2 := by unfold ofB; rw [hu, if_pos (.inr (by omega))]
    refine ⟨by unfold isPartB; rw [e1]; rfl, by unfold isPartB; rw [e2]; rfl, ?_, fun _ => ⟨e1, e2⟩⟩
    apply UInt8.toNat_inj.1
    rw [low_toNat, low_toNat, hu, if_pos (by omega), if_neg (by omega)]; omega

theorem okB_blank {c : UInt8} (h : okB c) (h32 : isPartB c = false) : c.toNat = 32 := by
  by_cases e : c.toNat = 32
  · exact e
  · rw [(okB_not h e).1] at h32; cases h32

theorem up32 : upB 32 = 32 := by decide

/-- A word's bytes. -/
theorem wok_run : ∀ {s : Bs}, wok false s → (∀ x ∈ s.take (spn isPartB s), okB x ∧ x.toNat ≠ 32) ∧ wok true (s.drop (spn isPartB s)) ∧ wn true (s.drop (spn isPartB s)) = wn false s
  | [], _ => ⟨by simp [spn], trivial, rfl⟩
  | c :: r, h => by
    rw [spn_cons]
    by_cases hp : isPartB c = true
    · rw [if_pos hp]
      have hc : c.toNat ≠ 32 := by
        intro e
        have : c = 32 := UInt8.toNat_inj.1 e
        subst this
        exact absurd hp (by decide)
      have h3 := h.2.2
      rw [show decide (c.toNat = 32) = false by simp [hc]] at h3
      obtain ⟨a1, a2, a3⟩ := wok_run h3
      simp only [List.take_succ_cons, List.drop_succ_cons]
      refine ⟨fun x hx => ?_, a2, ?_⟩
      · rcases List.mem_cons.1 hx with rfl | hx
        · exact ⟨h.1, hc⟩
        · exact a1 x hx
      · rw [a3]
        conv => rhs; unfold wn
        simp [hc]
    · rw [if_neg hp]
      have hc := okB_blank h.1 (by simpa using hp)
      simp only [List.take_zero, List.drop_zero]
      refine ⟨by simp, ⟨h.1, fun _ => by omega, h.2.2⟩, ?_⟩
      unfold wn
      simp [hc]

theorem spn_take_head {s : Bs} (x : UInt8) (hx : (s.drop (spn isPartB s)).head? = some x) : isPartB x = false := by
  induction s with
  | nil => cases hx
  | cons c r ih =>
    rw [spn_cons] at hx
    by_cases hp : isPartB c = true
    · rw [if_pos hp, List.drop_succ_cons] at hx; exact ih hx
    · rw [if_neg hp, List.drop_zero] at hx
      injection hx with hx
      subst hx
      simpa using hp

theorem cases_word {c : UInt8} {a q : Bs} (hc : ofB c = 2) (ha : ∀ x ∈ c :: a, isPartB x = true) (hq : ∀ x, q.head? = some x → isPartB x = false ∧ x ≠ 39) : nextP (c :: (a ++ q)) = some (1, (Lib.toLowerA (c :: a), (0, (0, [])))) := by
  refine word_of hc ha (fun x hx => (hq x hx).1) ?_
  rintro ⟨h, _⟩
  have h := pre1.1 h
  cases a with
  | nil => exact (hq _ h).2 rfl
  | cons d a =>
    have : d = 39 := by injection h
    have hd := ha d (by simp)
    rw [this] at hd
    exact absurd hd (by decide)

theorem cases_lx : ∀ (n : Nat) (s : Bs) (i : Nat), s.length ≤ n → wok true s → ∃ l, Lx i s l ∧ Lx i (s.map upB) l ∧ l.length = wn true s
  | _, [], i, _, _ => ⟨[], .nil, .nil, rfl⟩
  | 0, c :: r, i, hn, _ => by simp at hn
  | n + 1, c :: r, i, hn, h => by
    simp only [List.length_cons] at hn
    by_cases hc : c.toNat = 32
    · have e : c = 32 := UInt8.toNat_inj.1 hc
      subst e
      obtain ⟨l, h1, h2, h3⟩ := cases_lx n r (i + 1) (by omega) (by simpa using h.2.2)
      refine ⟨l, .blank (by decide) h1, ?_, ?_⟩
      · simp only [List.map_cons, up32]
        exact .blank (by decide) h2
      · rw [h3]; conv => rhs; unfold wn
        simp
    · obtain ⟨k1, k2, k3, k4⟩ := okB_not h.1 hc
      have hw := h.2.2
      rw [show decide (c.toNat = 32) = false by simp [hc]] at hw
      obtain ⟨a1, a2, a3⟩ := wok_run hw
      have hsl := spn_le isPartB r
      obtain ⟨o1, o2⟩ := k4 (h.2.1 rfl)
      have hq0 : ∀ x, (r.drop (spn isPartB r)).head? = some x → x = 32 := by
        intro x hx
        have h1 := spn_take_head x hx
        cases hd : r.drop (spn isPartB r) with
        | nil => rw [hd] at hx; cases hx
        | cons y p =>
          rw [hd] at hx a2
          injection hx with hx
          subst hx
          exact UInt8.toNat_inj.1 (okB_blank a2.1 h1)
      generalize hm : spn isPartB r = m at *
      have hr : r = r.take m ++ r.drop m := (List.take_append_drop m r).symm
      have hlen : (r.take m).length = m := by rw [List.length_take]; omega
      obtain ⟨l, h1, h2, h3⟩ := cases_lx n (r.drop m) (i + (m + 1)) (by simp; omega) a2
      have n1 := cases_word (c := c) (a := r.take m) (q := r.drop m) o1 (by
        intro x hx
        rcases List.mem_cons.1 hx with rfl | hx
        · exact k1
        · exact (okB_not (a1 x hx).1 (a1 x hx).2).1) (fun x hx => by rw [hq0 x hx]; exact ⟨by decide, by decide⟩)
      have n2 := cases_word (c := upB c) (a := (r.take m).map upB) (q := (r.drop m).map upB) o2 (by
        intro x hx
        rcases List.mem_cons.1 hx with rfl | hx
        · exact k2
        · obtain ⟨y, hy, rfl⟩ := List.mem_map.1 hx
          exact (okB_not (a1 y hy).1 (a1 y hy).2).2.1) (fun x hx => by
        rw [List.head?_map] at hx
        obtain ⟨y, hy, rfl⟩ := Option.map_eq_some_iff.1 hx
        rw [hq0 y hy, up32]; exact ⟨by decide, by decide⟩)
      have hlow : Lib.toLowerA (upB c :: (r.take m).map upB) = Lib.toLowerA (c :: r.take m) := by
        simp only [Lib.toLowerA, List.map_cons, List.map_map, k3]
        congr 1
        apply List.map_congr_left
        intro x hx
        exact (okB_not (a1 x hx).1 (a1 x hx).2).2.2.1
      rw [hlow, ← List.map_append, ← hr] at n2
      rw [← hr] at n1
      have hzl : (Lib.toLowerA (c :: r.take m)).length = m + 1 := by
        simp [Lib.toLowerA]; omega
      refine ⟨mk (1, (Lib.toLowerA (c :: r.take m), (0, (0, [])))) i :: l, .tok (by rw [o1]; decide) n1 ?_, .tok (by rw [o2]; decide) n2 ?_, ?_⟩
      · simp only [hzl, List.drop_succ_cons]; exact h1
      · simp only [hzl, List.drop_succ_cons, ← List.map_drop]; exact h2
      · simp only [List.length_cons, h3, a3]
        conv => rhs; unfold wn
        simp [hc]; omega

theorem cases_j2 {N : Nat} {R : Type} {k0 : Bs → Bs → Bs → Int → Int → Option R} {s sm gr : Bs} {w i : Int} {c : UInt8} (h1 : sm.length ≤ 1000) (h2 : gr.length ≤ 1000) :
    law16_LexCases_j2 N R k0 s sm gr w i (c.toNat : Int) = k0 s (sm ++ [c]) (gr ++ [upB c]) w i := by
  unfold law16_LexCases_j2
  rw [cond_t (room_one (by simp; omega)), ofTo]
  by_cases h : 97 ≤ c.toNat
  · rw [if_t (by omega)]
    by_cases h' : c.toNat ≤ 122
    · have e : upB c = UInt8.ofNat (Int.toNat (IntKind.wrap .u8 ((c.toNat : Int) - 32))) := by unfold upB; rw [if_pos ⟨h, h'⟩]
      rw [if_t (by omega), cond_t (room_one (by simp; omega)), e]
    · have e : upB c = c := by unfold upB; rw [if_neg (by omega)]
      rw [if_f (by omega), cond_t (room_one (by simp; omega)), e]
  · have e : upB c = c := by unfold upB; rw [if_neg (by omega)]
    rw [if_f (by omega), cond_t (room_one (by simp; omega)), e]

/-- May a word begin here? -/
def begs (s : Bs) (i : Nat) : Bool := match i with
  | 0 => true
  | k + 1 => match s[k]? with
    | some c => decide (c.toNat = 32)
    | none => false

theorem begs_succ {s : Bs} {k : Nat} (hk : k < s.length) : begs s (k + 1) = decide (s[k].toNat = 32) := by
  simp [begs, hk]

theorem cases_j1 {N : Nat} (ha : law16_alive N = some (true, ())) {R : Type} {k0 : Bs → Bs → Bs → Int → Int → Option R} {k1 : Bs → Bool → Bs → Bs → Int → Int → Option R} {s sm gr : Bs} {w : Nat} {i : Nat} {c : UInt8} (hi : i < s.length) (hs : s.length ≤ 400) (hw : w ≤ 400) (h1 : sm.length ≤ 1000) (h2 : gr.length ≤ 1000) :
    law16_LexCases_j1 N R k0 k1 s sm gr (w : Int) (i : Int) (c.toNat : Int) = if begs s i = true ∧ c.toNat = 95 then k1 s true sm gr (w : Int) (i : Int)
      else k0 s (sm ++ [c]) (gr ++ [upB c]) ((w + (if begs s i = true ∧ c.toNat ≠ 32 then 1 else 0) : Nat) : Int) (i : Int) := by
  have hwr : IntKind.wrap .i64 ((w : Int) + 1) = ((w + 1 : Nat) : Int) := by rw [wrap_i64_id (by omega) (by omega)]; omega
  unfold law16_LexCases_j1
  by_cases hc : c.toNat = 32
  · rw [cond_f (by rw [dec_t (by omega)]; rfl), cases_j2 h1 h2, if_neg (by omega), if_neg (by omega)]; rfl
  · rw [cond_t (by rw [dec_f (by omega)]; rfl)]
    cases i with
    | zero =>
      have hb : begs s 0 = true := rfl
      rw [if_t (by omega), hb]
      by_cases h95 : c.toNat = 95
      · rw [if_t (by omega), ha, if_pos ⟨rfl, h95⟩]; rfl
      · rw [if_f (by omega), cases_j2 h1 h2, if_neg (by omega), if_pos ⟨rfl, hc⟩, hwr]
    | succ k =>
      have hk : k < s.length := by omega
      have hkw : IntKind.wrap .i64 (((k + 1 : Nat) : Int) - 1) = (k : Int) := by rw [wrap_i64_id (by omega) (by omega)]; omega
      rw [if_f (by omega), hkw, nth_lt hk, bind_some']
      have hb := begs_succ hk
      rw [hb]
      by_cases h32 : s[k].toNat = 32
      · rw [if_t (by omega)]
        by_cases h95 : c.toNat = 95
        · rw [if_t (by omega), ha, if_pos ⟨decide_eq_true h32, h95⟩]; rfl
        · rw [if_f (by omega), cases_j2 h1 h2, if_neg (by omega), if_pos ⟨decide_eq_true h32, hc⟩, hwr]
      · rw [if_f (by omega), cases_j2 h1 h2, if_neg (by simp [h32]), if_neg (by simp [h32])]; rfl

theorem cases_l0 {N : Nat} (ha : law16_alive N = some (true, ())) {R : Type} {k0 : Bs → Bs → Int → Option R} {k1 : Bool → Bs → Bs → Int → Option R} {s : Bs} (hs : s.length ≤ 400) : ∀ (m i w : Nat) (fuel : Nat) (sm gr : Bs), i + m = s.length → m < fuel → sm.length ≤ i → gr.length ≤ i → w ≤ i →
    (wok (begs s i) (s.drop i) ∧ law16_LexCases_l0 N R k0 k1 fuel s sm gr (w : Int) (i : Int) = k0 (sm ++ s.drop i) (gr ++ (s.drop i).map upB) ((w + wn (begs s i) (s.drop i) : Nat) : Int)) ∨
      ∃ x y z, law16_LexCases_l0 N R k0 k1 fuel s sm gr (w : Int) (i : Int) = k1 true x y z := by
  intro m
  induction m with
  | zero =>
    intro i w fuel sm gr h1 h2 h3 h4 h5
    obtain ⟨f, rfl⟩ : ∃ f, fuel = f + 1 := ⟨fuel - 1, by omega⟩
    refine .inl ?_
    rw [List.drop_eq_nil_of_le (by omega)]
    refine ⟨trivial, ?_⟩
    show law16_LexCases_l0B N R _ k0 k1 s sm gr (w : Int) (i : Int) = _
    unfold law16_LexCases_l0B
    rw [if_f (by omega)]
    simp [wn]
  | succ m ih =>
    intro i w fuel sm gr h1 h2 h3 h4 h5
    obtain ⟨f, rfl⟩ : ∃ f, fuel = f + 1 := ⟨fuel - 1, by omega⟩
    have hi : i < s.length := by omega
    have e := List.drop_eq_getElem_cons hi
    have hbs := begs_succ hi
    have go : okB s[i] → (wok (begs s i) (s.drop i) ∧ law16_LexCases_j1 N R (fun v21 v22 v23 v24 v25 => law16_LexCases_l0 N R k0 k1 f v21 v22 v23 v24 (IntKind.wrap .i64 (v25 + 1))) (fun _ v27 v28 v29 v30 _ => k1 v27 v28 v29 v30) s sm gr (w : Int) (i : Int) (s[i].toNat : Int) = k0 (sm ++ s.drop i) (gr ++ (s.drop i).map upB) ((w + wn (begs s i) (s.drop i) : Nat) : Int)) ∨
        ∃ x y z, law16_LexCases_j1 N R (fun v21 v22 v23 v24 v25 => law16_LexCases_l0 N R k0 k1 f v21 v22 v23 v24 (IntKind.wrap .i64 (v25 + 1))) (fun _ v27 v28 v29 v30 _ => k1 v27 v28 v29 v30) s sm gr (w : Int) (i : Int) (s[i].toNat : Int) = k1 true x y z := by
      intro hok
      rw [cases_j1 ha hi hs (by omega) (by omega) (by omega)]
      by_cases hb : begs s i = true ∧ s[i].toNat = 95
      · rw [if_pos hb]; exact .inr ⟨_, _, _, rfl⟩
      · rw [if_neg hb, wrap_succ hi (by omega)]
        rcases ih (i + 1) (w + (if begs s i = true ∧ s[i].toNat ≠ 32 then 1 else 0)) f (sm ++ [s[i]]) (gr ++ [upB s[i]]) (by omega) (by omega) (by simp; omega) (by simp; omega) (by split <;> omega) with ⟨g1, g2⟩ | ⟨x, y, z, g⟩
        · refine .inl ⟨?_, ?_⟩
          · rw [e]
            refine ⟨hok, fun hbt h95 => hb ⟨hbt, h95⟩, ?_⟩
            rw [← hbs]; exact g1
          · rw [g2, e, hbs]
            simp only [List.map_cons, List.append_assoc, List.cons_append, List.nil_append]
            conv => rhs; arg 3; arg 1; arg 2; unfold wn
            rw [Nat.add_assoc]
        · exact .inr ⟨x, y, z, g⟩
    show (_ ∧ law16_LexCases_l0B N R (law16_LexCases_l0 N R k0 k1 f) k0 k1 s sm gr (w : Int) (i : Int) = _) ∨ ∃ x y z, law16_LexCases_l0B N R (law16_LexCases_l0 N R k0 k1 f) k0 k1 s sm gr (w : Int) (i : Int) = _
    unfold law16_LexCases_l0B
    rw [if_t (by omega), nth_lt hi, bind_some', ha, bind_some']
    by_cases a1 : s[i].toNat = 32
    · rw [cond_f (by rw [dec_t (by omega)]; rfl)]
      exact go (.inl a1)
    · rw [cond_t (by rw [dec_f (by omega)]; rfl)]
      by_cases a2 : s[i].toNat = 95
      · rw [cond_f (by rw [dec_t (by omega)]; rfl)]
        exact go (.inr (.inl a2))
      · rw [cond_t (by rw [dec_f (by omega)]; rfl)]
        by_cases a3 : s[i].toNat < 97
        · rw [if_t (by omega)]; exact .inr ⟨_, _, _, rfl⟩
        · rw [if_f (by omega)]
          by_cases a4 : 122 < s[i].toNat
          · rw [if_t (by omega)]; exact .inr ⟨_, _, _, rfl⟩
          · rw [if_f (by omega)]
            exact go (.inr (.inr (by omega)))

theorem cases_l4 {N : Nat} {R : Type} {k0 : Option R} {k1 : Bool → Option R} {A : List TT} (hA : A.length ≤ 1000) : ∀ (m i fuel : Nat), i + m = A.length → m < fuel → law16_LexCases_l4 N R k0 k1 fuel A A (i : Int) = k0 := by
  intro m
  induction m with
  | zero =>
    intro i fuel h1 h2
    obtain ⟨f, rfl⟩ : ∃ f, fuel = f + 1 := ⟨fuel - 1, by omega⟩
    show law16_LexCases_l4B N R _ k0 k1 A A (i : Int) = _
    unfold law16_LexCases_l4B
    rw [if_f (by omega)]
  | succ m ih =>
    intro i fuel h1 h2
    obtain ⟨f, rfl⟩ : ∃ f, fuel = f + 1 := ⟨fuel - 1, by omega⟩
    have hi : i < A.length := by omega
    show law16_LexCases_l4B N R (law16_LexCases_l4 N R k0 k1 f) k0 k1 A A (i : Int) = _
    unfold law16_LexCases_l4B
    rw [if_t (by omega), nth_lt hi, bind_some', bind_some', cond_f (by simp), wrap_succ hi (by omega)]
    exact ih (i + 1) f (by omega) (by omega)

theorem wn_le : ∀ (b : Bool) (s : Bs), wn b s ≤ s.length
  | _, [] => by simp [wn]
  | b, c :: r => by
    have := wn_le (decide (c.toNat = 32)) r
    unfold wn
    simp only [List.length_cons]
    split <;> omega

theorem LexCases_all (s : Bs) : law16_LexCases big s = some (true, ()) := by
  have ha := alive16
  have hb := big_million
  generalize big = N at ha hb
  unfold law16_LexCases law16_LexCases_cps
  by_cases h4 : 400 < s.length
  · rw [if_t (by omega), ha]; rfl
  · rw [if_f (by omega)]
    rcases cases_l0 ha (k0 := fun v3 v4 v5 => _) (k1 := fun v9 _ _ _ => some (v9, ())) (s := s) (by omega) s.length 0 0 N [] [] (by omega) (by omega) (by simp) (by simp) (by omega) with ⟨g1, g2⟩ | ⟨x, y, z, g⟩
    · refine g2.trans ?_
      have hw := wn_le true s
      rw [List.drop_zero] at g1 ⊢
      obtain ⟨l, k1, k2, k3⟩ := cases_lx s.length s 0 (by omega) g1
      have hl : (s.map upB).length = s.length := by simp
      have hll := Lx_len k1
      show Option.bind (lex_Lex N s) _ = _
      rw [Lex_ok hb (by omega) k1]
      show Option.bind (lex_Lex N (s.map upB)) _ = _
      rw [Lex_ok hb (by omega) k2, bind_some', hl]
      have hwr : IntKind.wrap .i64 (((0 + wn (begs s 0) s : Nat) : Int) + 1) = ((l.length + 1 : Nat) : Int) := by
        rw [wrap_i64_id (by have : begs s 0 = true := rfl; rw [this]; omega) (by have : begs s 0 = true := rfl; rw [this]; omega)]
        have : begs s 0 = true := rfl
        rw [this, k3]; omega
      dsimp only
      rw [cond_f (show (!Err.isNil Err.nil) = false from rfl), cond_f (show (!Err.isNil Err.nil) = false from rfl), hwr, cond_f (by simp), cond_f (by simp)]
      unfold law16_LexCases_j3
      refine (cases_l4 (A := l ++ [endT s.length]) (by simp; omega) (l.length + 1) 0 N (by simp) (by omega)).trans ?_
      rw [ha]; rfl
    · exact g

theorem LexCases_pure : LexCases_Pure := fun x _ => LexCases_all _

end Go.Proofs.YtmpglmalfkkokaaDoor.E
