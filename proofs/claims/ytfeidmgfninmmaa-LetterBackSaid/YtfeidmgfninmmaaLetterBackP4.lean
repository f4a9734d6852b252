/-
  The statement LetterBack of the program is proved: for every input that the row speaks of, the law answers true.
  Conditions: those that the statement's row prints, and no other. This text: plain laws of the pure functions.
-/
import Derived.Test.YtfeidmgfninmmaaLetterBackP3
import Derived.Test.YtfeidmgfninmmaaLetterBackP2
set_option linter.unusedVariables false
set_option linter.unusedSimpArgs false
/-! The program's reading of rows. -/
namespace Go.Proofs.Ytfeidmgfninmmaa.E
open Go.Ev

/-- So many bytes, where there are as many. -/
def takeS (n : Int) (ok : Bool) (b : List UInt8) : List UInt8 × Bool × List UInt8 × Unit :=
  if ok = true ∧ 0 ≤ n ∧ n ≤ (b.length : Int) then (b.take n.toNat, (true, (b.drop n.toNat, ()))) else ([0], (false, (b, ())))

theorem take_eq (N : Nat) (n : Int) (ok : Bool) (b : List UInt8) : row_Decode_1 N n ok b = some (takeS n ok b) := by
  unfold row_Decode_1 row_Decode_1_cps takeS
  cases ok with
  | false => simp
  | true =>
    by_cases h0 : 0 ≤ n
    · by_cases hl : n ≤ (b.length : Int)
      · simp [h0, hl]
      · simp [h0, hl]
    · simp [h0]

/-- A number, where there is one. -/
def numS (b : List UInt8) (ok : Bool) : Int × List UInt8 × Bool × Unit :=
  match longS b with
  | (n, (k, (is, _))) => if ok = true then (match takeS k is b with
    | (_, (ok', (b', _))) => (n, (b', (ok', ())))) else (n, (b, (false, ())))

theorem num_eq {N : Nat} {b : List UInt8} (hb : b.length ≤ 9223372036854775807) (hN : b.length < N) (ok : Bool) : row_Decode_2 N b ok = some (numS b ok) := by
  unfold row_Decode_2 row_Decode_2_cps numS
  rw [row_Long_eq hb hN, bind_some']
  generalize longS b = x
  obtain ⟨n, k, is, _⟩ := x
  cases ok with
  | true =>
    simp only [cond_true, take_eq, bind_some', if_true]
  | false =>
    simp only [cond_false, take_eq, bind_some', Bool.false_eq_true, if_false]
    simp [takeS]

theorem numS_some {b : List UInt8} {u k : Nat} (h : rd b = some (u, k)) (hu : u < 18446744073709551616) : numS b true = (unzz u, (b.drop k, (true, ()))) := by
  have hk := rd_len h
  unfold numS longS
  rw [h]
  simp only
  rw [if_pos hu]
  simp only [if_true, takeS]
  rw [if_pos ⟨trivial, by omega, by omega⟩]
  simp

theorem numS_none {b : List UInt8} (h : ∀ u k, rd b = some (u, k) → ¬ u < 18446744073709551616) : (numS b true).2.2.1 = false := by
  unfold numS longS
  cases hr : rd b with
  | none => simp [takeS]
  | some p =>
    obtain ⟨u, k⟩ := p
    have := h u k hr
    simp [takeS, this]

theorem numS_len (b : List UInt8) (ok : Bool) : (numS b ok).2.1.length ≤ b.length := by
  unfold numS
  generalize longS b = x
  obtain ⟨n, k, is, _⟩ := x
  simp only
  split
  · unfold takeS
    split <;> simp
  · simp

theorem takeS_len (n : Int) (ok : Bool) (b : List UInt8) : (takeS n ok b).2.2.1.length ≤ b.length := by
  unfold takeS
  split <;> simp

theorem wrap_dec {n : Nat} (h : n + 1 < 256) : IntKind.wrap .u8 (((n + 1 : Nat) : Int) - 1) = (n : Int) := by rw [wrap_u8]; omega

theorem kind_nat (c : UInt8) : IntKind.wrap .i64 (c.toNat : Int) = (c.toNat : Int) := by
  have := c.toNat_lt
  exact wrap_i64_id (by omega) (by omega)

theorem dec_cond (p : Prop) [Decidable p] {α : Type} (a b : α) : (bif decide p then a else b) = if p then a else b := by
  by_cases h : p <;> simp [h]

theorem value_Right_mk (N : Nat) (a b : Int) (c : List UInt8) : value_Right N a b c = some (right (a, (b, (c, ()))), ()) := value_Right_eq N (a, (b, (c, ())))

/-- A round of the program's loop: a value is added, and all is well just if bytes begin with one, and there are not too many. -/
theorem dec_round {N : Nat} (hN : 20 < N) (R : Type) (rec : List V → Int → List UInt8 → Bool → Option R) (k0 : List V → List UInt8 → Bool → Option R) (l : List V) (n : Nat) (b : List UInt8) (hn : n + 1 < 256) (hl : l.length ≤ 1000)
    (hb : b.length ≤ 9223372036854775807) (hbN : b.length < N) :
    (∃ v r, pV b = some (v, r) ∧ row_Decode_l0B N R rec k0 l ((n + 1 : Nat) : Int) b true = rec (l ++ [v]) (n : Int) r (decide ((l.length : Int) < 16))) ∨
    (pV b = none ∧ ∃ l' r, row_Decode_l0B N R rec k0 l ((n + 1 : Nat) : Int) b true = rec l' (n : Int) r false ∧ r.length ≤ b.length) := by
  unfold row_Decode_l0B
  rw [cond_true, if_t (by omega), take_eq, bind_some', wrap_dec hn]
  have hroom : ∀ v : V, room 32 (l.length + ([v] : List V).length) = true := fun v => room32 (by simp; omega)
  simp only [hroom, cond_true, value_Right_mk]
  cases b with
  | nil =>
    refine .inr ⟨rfl, ?_⟩
    have e : takeS 1 true [] = ([0], (false, ([], ()))) := rfl
    rw [e]
    dsimp only
    rw [show nth ([0] : List UInt8) 0 = some 0 from rfl, bind_some']
    rw [show IntKind.wrap .i64 ((0 : UInt8).toNat : Int) = 0 from by decide]
    simp
    exact ⟨_, rfl⟩
  | cons c b =>
    have e : takeS 1 true (c :: b) = ([c], (true, (b, ()))) := by
      unfold takeS
      rw [if_pos ⟨rfl, by decide, by simp; omega⟩]; simp
    rw [e]
    dsimp only
    rw [show nth ([c] : List UInt8) 0 = some c from rfl, bind_some', kind_nat]
    have hc256 := c.toNat_lt
    have hbl : b.length ≤ (c :: b).length := by simp
    have hb' : b.length ≤ 9223372036854775807 := by simp at hb; omega
    have hbN' : b.length < N := by simp at hbN; omega
    by_cases h1 : c.toNat = 1
    · rw [if_t (by omega), take_eq, bind_some']
      cases b with
      | nil =>
        have e1 : takeS 1 true [] = ([0], (false, ([], ()))) := rfl
        rw [e1]
        dsimp only
        rw [show nth ([0] : List UInt8) 0 = some 0 from rfl, bind_some', cond_false]
        refine .inr ⟨by simp [pV, h1], _, _, rfl, by simp⟩
      | cons x b =>
        have e1 : takeS 1 true (x :: b) = ([x], (true, (b, ()))) := by
          unfold takeS
          rw [if_pos ⟨rfl, by decide, by simp; omega⟩]; simp
        rw [e1]
        dsimp only
        rw [show nth ([x] : List UInt8) 0 = some x from rfl, bind_some', cond_true, bind_some', kind_nat]
        dsimp only
        by_cases hx : x.toNat ≤ 1
        · have hr : right ((c.toNat : Int), ((x.toNat : Int), ([], ()))) = true := by
            unfold right; simp only; rw [if_pos (by omega)]; simp; omega
          rw [cond_t hr]
          refine .inl ⟨(1, ((x.toNat : Int), ([], ()))), b, by simp [pV, h1, hx], ?_⟩
          rw [h1]; rfl
        · have hr : right ((c.toNat : Int), ((x.toNat : Int), ([], ()))) = false := by
            unfold right; simp only; rw [if_pos (by omega)]; simp; omega
          rw [cond_f hr]
          exact .inr ⟨by simp [pV, h1, hx], _, _, rfl, by simp; omega⟩
    · rw [if_f (by omega)]
      have num : ∀ (_ : c.toNat = 2 ∨ c.toNat = 3), (∃ v r, pV (c :: b) = some (v, r) ∧ (Option.bind (row_Decode_2 N b true) fun (v24 : Int × (List UInt8) × Bool × Unit) =>
          (bif v24.2.2.1 then (Option.bind (some (right ((c.toNat : Int), (v24.1, ([], ()))), ())) fun (v25 : Bool × Unit) => (bif v25.1 then (rec (l ++ [((c.toNat : Int), (v24.1, ([], ())))]) (n : Int) v24.2.1 (decide ((l.length : Int) < 16)))
            else (rec (l ++ [((c.toNat : Int), (v24.1, ([], ())))]) (n : Int) v24.2.1 false))) else (rec (l ++ [((c.toNat : Int), (v24.1, ([], ())))]) (n : Int) v24.2.1 false))) = rec (l ++ [v]) (n : Int) r (decide ((l.length : Int) < 16))) ∨
          (pV (c :: b) = none ∧ ∃ l' r, (Option.bind (row_Decode_2 N b true) fun (v24 : Int × (List UInt8) × Bool × Unit) =>
          (bif v24.2.2.1 then (Option.bind (some (right ((c.toNat : Int), (v24.1, ([], ()))), ())) fun (v25 : Bool × Unit) => (bif v25.1 then (rec (l ++ [((c.toNat : Int), (v24.1, ([], ())))]) (n : Int) v24.2.1 (decide ((l.length : Int) < 16)))
            else (rec (l ++ [((c.toNat : Int), (v24.1, ([], ())))]) (n : Int) v24.2.1 false))) else (rec (l ++ [((c.toNat : Int), (v24.1, ([], ())))]) (n : Int) v24.2.1 false))) = rec l' (n : Int) r false ∧ r.length ≤ (c :: b).length) := by
        intro h23
        rw [num_eq hb' hbN', bind_some']
        have hr : ∀ z : Int, right ((c.toNat : Int), (z, ([], ()))) = true := fun z => by
          unfold right; simp only; rw [if_neg (by omega), if_neg (by omega), if_pos (by omega)]; simp
        by_cases hex : ∃ u k, rd b = some (u, k) ∧ u < 18446744073709551616
        · obtain ⟨u, k, hrd, hu⟩ := hex
          rw [numS_some hrd hu]
          dsimp only
          rw [cond_true, bind_some', cond_t (hr _)]
          refine .inl ⟨_, _, ?_, rfl⟩
          simp only [pV]
          rw [if_neg (by omega), if_neg (by omega), if_pos h23, hrd]
          simp only
          rw [if_pos hu]
        · have hf := numS_none (b := b) (fun u k hrd hu => hex ⟨u, k, hrd, hu⟩)
          rw [cond_f hf]
          refine .inr ⟨?_, _, _, rfl, Nat.le_trans (numS_len b true) hbl⟩
          simp only [pV]
          rw [if_neg (by omega), if_neg (by omega), if_pos h23]
          cases hrd : rd b with
          | none => rfl
          | some p =>
            obtain ⟨u, k⟩ := p
            simp only
            rw [if_neg (fun hu => hex ⟨u, k, hrd, hu⟩)]
      have text : ∀ (_ : c.toNat = 4 ∨ c.toNat = 5), (∃ v r, pV (c :: b) = some (v, r) ∧ (Option.bind (row_Decode_2 N b true) fun (v52 : Int × (List UInt8) × Bool × Unit) =>
          (Option.bind (row_Decode_1 N v52.1 v52.2.2.1 v52.2.1) fun (v53 : (List UInt8) × Bool × (List UInt8) × Unit) =>
          (bif v53.2.1 then (Option.bind (some (right ((c.toNat : Int), (0, (v53.1, ()))), ())) fun (v25 : Bool × Unit) => (bif v25.1 then (rec (l ++ [((c.toNat : Int), (0, (v53.1, ())))]) (n : Int) v53.2.2.1 (decide ((l.length : Int) < 16)))
            else (rec (l ++ [((c.toNat : Int), (0, (v53.1, ())))]) (n : Int) v53.2.2.1 false))) else (rec (l ++ [((c.toNat : Int), (0, (v53.1, ())))]) (n : Int) v53.2.2.1 false)))) = rec (l ++ [v]) (n : Int) r (decide ((l.length : Int) < 16))) ∨
          (pV (c :: b) = none ∧ ∃ l' r, (Option.bind (row_Decode_2 N b true) fun (v52 : Int × (List UInt8) × Bool × Unit) =>
          (Option.bind (row_Decode_1 N v52.1 v52.2.2.1 v52.2.1) fun (v53 : (List UInt8) × Bool × (List UInt8) × Unit) =>
          (bif v53.2.1 then (Option.bind (some (right ((c.toNat : Int), (0, (v53.1, ()))), ())) fun (v25 : Bool × Unit) => (bif v25.1 then (rec (l ++ [((c.toNat : Int), (0, (v53.1, ())))]) (n : Int) v53.2.2.1 (decide ((l.length : Int) < 16)))
            else (rec (l ++ [((c.toNat : Int), (0, (v53.1, ())))]) (n : Int) v53.2.2.1 false))) else (rec (l ++ [((c.toNat : Int), (0, (v53.1, ())))]) (n : Int) v53.2.2.1 false)))) = rec l' (n : Int) r false ∧ r.length ≤ (c :: b).length) := by
        intro h45
        rw [num_eq hb' hbN', bind_some', take_eq, bind_some']
        have hr : ∀ z : List UInt8, right ((c.toNat : Int), (0, (z, ()))) = decide (z.length ≤ 200) := fun z => by
          unfold right; simp only; rw [if_neg (by omega), if_neg (by omega), if_neg (by omega), if_pos (by omega)]; simp
        by_cases hex : ∃ u k, rd b = some (u, k) ∧ u < 18446744073709551616
        · obtain ⟨u, k, hrd, hu⟩ := hex
          rw [numS_some hrd hu]
          dsimp only
          have hpv : pV (c :: b) = if u < 18446744073709551616 ∧ 0 ≤ unzz u ∧ unzz u ≤ ((b.drop k).length : Int) ∧ unzz u ≤ 200 then
              some (((c.toNat : Int), (0, ((b.drop k).take (unzz u).toNat, ()))), (b.drop k).drop (unzz u).toNat) else none := by
            simp only [pV]
            rw [if_neg (by omega), if_neg (by omega), if_neg (by omega), if_pos h45, hrd]
          by_cases hin : 0 ≤ unzz u ∧ unzz u ≤ ((b.drop k).length : Int)
          · have e2 : takeS (unzz u) true (b.drop k) = ((b.drop k).take (unzz u).toNat, (true, ((b.drop k).drop (unzz u).toNat, ()))) := by
              unfold takeS; rw [if_pos ⟨rfl, hin.1, hin.2⟩]
            rw [e2]
            dsimp only
            rw [cond_true, bind_some', hr]
            have hlen : (((b.drop k).take (unzz u).toNat).length : Int) = unzz u := by
              have := hin.2; simp at this ⊢; omega
            by_cases h200 : unzz u ≤ 200
            · rw [if_t (by omega)]
              exact .inl ⟨_, _, by rw [hpv, if_pos ⟨hu, hin.1, hin.2, h200⟩], rfl⟩
            · rw [if_f (by omega)]
              exact .inr ⟨by rw [hpv, if_neg (by omega)], _, _, rfl, by simp; omega⟩
          · have e2 : takeS (unzz u) true (b.drop k) = ([0], (false, (b.drop k, ()))) := by
              unfold takeS; rw [if_neg (fun h => hin h.2)]
            rw [e2]
            dsimp only
            rw [cond_false]
            exact .inr ⟨by rw [hpv, if_neg (by omega)], _, _, rfl, by simp; omega⟩
        · have hf := numS_none (b := b) (fun u k hrd hu => hex ⟨u, k, hrd, hu⟩)
          have hnl := numS_len b true
          generalize numS b true = y at hf hnl
          obtain ⟨yn, yb, yo, _⟩ := y
          dsimp only at hf hnl
          subst hf
          have e2 : takeS yn false yb = ([0], (false, (yb, ()))) := by unfold takeS; rw [if_neg (by simp)]
          dsimp only
          rw [e2]
          dsimp only
          rw [cond_false]
          refine .inr ⟨?_, _, _, rfl, by simp; omega⟩
          simp only [pV]
          rw [if_neg (by omega), if_neg (by omega), if_neg (by omega), if_pos h45]
          cases hrd : rd b with
          | none => rfl
          | some p =>
            obtain ⟨u, k⟩ := p
            simp only
            rw [if_neg (fun hu => hex ⟨u, k, hrd, hu.1⟩)]
      by_cases h2 : c.toNat = 2
      · rw [if_t (by omega)]; exact num (.inl h2)
      · rw [if_f (by omega)]
        by_cases h3 : c.toNat = 3
        · rw [if_t (by omega)]; exact num (.inr h3)
        · rw [if_f (by omega)]
          by_cases h4 : c.toNat = 4
          · rw [if_t (by omega)]; unfold row_Decode_r1; simp only [wrap_dec hn, hroom, cond_true]; exact text (.inl h4)
          · rw [if_f (by omega)]
            by_cases h5 : c.toNat = 5
            · rw [if_t (by omega)]; unfold row_Decode_r1; simp only [wrap_dec hn, hroom, cond_true]; exact text (.inr h5)
            · rw [if_f (by omega), bind_some']
              dsimp only
              by_cases h0 : c.toNat = 0
              · have hr : right ((c.toNat : Int), (0, ([], ()))) = true := by
                  unfold right; simp only; rw [if_neg (by omega), if_pos (by omega)]; simp
                rw [cond_t hr]
                exact .inl ⟨(0, (0, ([], ()))), b, by simp [pV, h0], by rw [h0]; rfl⟩
              · have hr : right ((c.toNat : Int), (0, ([], ()))) = false := by
                  unfold right; simp only; rw [if_neg (by omega), if_neg (by omega), if_neg (by omega), if_neg (by omega)]
                rw [cond_f hr]
                refine .inr ⟨?_, _, _, rfl, by simp⟩
                simp only [pV]
                rw [if_neg h0, if_neg h1, if_neg (by omega), if_neg (by omega)]


theorem dec_stop {N : Nat} {R : Type} {rec : List V → Int → List UInt8 → Bool → Option R} {k0 : List V → List UInt8 → Bool → Option R} {l : List V} {n : Int} {b : List UInt8} {ok : Bool} (h : ok = false ∨ n ≤ 0) :
    row_Decode_l0B N R rec k0 l n b ok = k0 l b ok := by
  unfold row_Decode_l0B
  cases ok with
  | false => rfl
  | true =>
    rw [cond_true, if_f (by rcases h with h | h; cases h; omega)]

/-- The loop: all values that are told, not too many. -/
theorem dec_loop {N : Nat} (hN : 20 < N) (R : Type) (k0 : List V → List UInt8 → Bool → Option R) : ∀ (n : Nat) (l : List V) (b : List UInt8), n < 256 → l.length + n ≤ 600 → b.length ≤ 9223372036854775807 → b.length < N → ∀ m, n < m →
    (∃ vs r, pL n b = some (vs, r) ∧ (l.length + n ≤ 16 ∨ n = 0) ∧ row_Decode_l0 N R k0 m l (n : Int) b true = k0 (l ++ vs) r true) ∨
    ((pL n b = none ∨ (16 < l.length + n ∧ 0 < n)) ∧ ∃ l' r, row_Decode_l0 N R k0 m l (n : Int) b true = k0 l' r false)
  | 0, l, b, _, _, _, _, m, hm => by
    obtain ⟨m, rfl⟩ : ∃ k, m = k + 1 := ⟨m - 1, by omega⟩
    refine .inl ⟨[], b, rfl, .inr rfl, ?_⟩
    simp only [row_Decode_l0]
    rw [dec_stop (.inr (by omega)), List.append_nil]
  | n + 1, l, b, hn, hl, hb, hbN, m, hm => by
    obtain ⟨m, rfl⟩ : ∃ k, m = k + 1 := ⟨m - 1, by omega⟩
    simp only [row_Decode_l0]
    have stop : ∀ l' (b' : List UInt8), row_Decode_l0 N R k0 m l' (n : Int) b' false = k0 l' b' false := fun l' b' => by
      obtain ⟨m, rfl⟩ : ∃ k, m = k + 1 := ⟨m - 1, by omega⟩
      simp only [row_Decode_l0]
      exact dec_stop (.inl rfl)
    rcases dec_round hN R (row_Decode_l0 N R k0 m) k0 l n b hn (by omega) hb hbN with ⟨v, r, hv, he⟩ | ⟨hv, l', r, he, _⟩
    · rw [he]
      obtain ⟨_, _, hbr⟩ := pV_some hv
      have hrl : r.length ≤ b.length := by rw [hbr]; simp
      by_cases h16 : l.length < 16
      · rw [dec_t (by omega)]
        rcases dec_loop hN R k0 n (l ++ [v]) r (by omega) (by simp; omega) (by omega) (by omega) m (by omega) with ⟨vs, r', h1, h2, h3⟩ | ⟨h1, l', r', h2⟩
        · refine .inl ⟨v :: vs, r', by simp [pL, hv, h1], .inl ?_, by rw [h3]; simp⟩
          simp at h2; omega
        · refine .inr ⟨?_, l', r', h2⟩
          rcases h1 with h1 | h1
          · left; simp [pL, hv, h1]
          · right; simp at h1; omega
      · rw [dec_f (by omega), stop]
        exact .inr ⟨.inr ⟨by omega, by omega⟩, _, _, rfl⟩
    · rw [he, stop]
      exact .inr ⟨.inl (by simp [pL, hv]), _, _, rfl⟩

/-- The program's rows of bytes. -/
theorem row_Decode_eq {N : Nat} (hN : 1000 < N) {b : List UInt8} (hb : b.length ≤ 9223372036854775807) (hbN : b.length < N) :
    row_Decode N b = some (match decR b with
      | some l => (l, (0, ()))
      | none => ([], (51, ()))) := by
  unfold row_Decode row_Decode_cps
  rw [take_eq, bind_some']
  cases b with
  | nil =>
    have e : takeS 1 true [] = ([0], (false, ([], ()))) := rfl
    rw [e]
    dsimp only
    rw [show nth ([0] : List UInt8) 0 = some 0 from rfl, bind_some']
    obtain ⟨m, rfl⟩ : ∃ k, N = k + 1 := ⟨N - 1, by omega⟩
    simp only [row_Decode_l0]
    rw [dec_stop (.inl rfl)]
    rfl
  | cons c b =>
    have e : takeS 1 true (c :: b) = ([c], (true, (b, ()))) := by
      unfold takeS
      rw [if_pos ⟨rfl, by decide, by simp; omega⟩]; simp
    rw [e]
    dsimp only
    rw [show nth ([c] : List UInt8) 0 = some c from rfl, bind_some']
    have hc256 := c.toNat_lt
    simp only [decR]
    rcases dec_loop (N := N) (by omega) _ (fun (v4 : List V) (v5 : List UInt8) (v6 : Bool) => (bif (!v6) then some ([], (51, ())) else (bif (decide (0 < (v5.length : Int))) then some ([], (51, ())) else some (v4, (0, ()))) : Option (List V × Int × Unit)))
      c.toNat [] b (by omega) (by simp; omega) (by simp at hb; omega) (by simp at hbN; omega) N (by omega) with ⟨vs, r, h1, h2, h3⟩ | ⟨h1, l', r, h2⟩
    · refine h3.trans ?_
      rw [if_pos (by simp at h2; omega), h1]
      cases r with
      | nil => simp
      | cons x r => simp
    · refine h2.trans ?_
      rcases h1 with h1 | h1
      · rw [h1]; simp
      · rw [if_neg (by simp at h1; omega)]; simp

end Go.Proofs.Ytfeidmgfninmmaa.E
