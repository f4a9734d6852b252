/-
  Plain laws of the pure functions.
  Conditions: those that each statement prints, and no other.
-/
import Derived.Test.YtmpglmalfkkokaaGreatDoorPValRoundP
set_option linter.unusedVariables false
set_option linter.unusedSimpArgs false
/-! A value's text, as the document has it. -/
namespace Go.Proofs.YtmpglmalfkkokaaGreatDoor.E
open Go.Ev

theorem rright_eq (N : Nat) (k n : Int) (s : Bs) : ref02_Right N k n s = some (rightB k n s, ()) := by
  unfold ref02_Right ref02_Right_cps rightB ref02_Right_j0
  by_cases h1 : k = 1
  · subst h1
    by_cases h2 : n = 1
    · subst h2; simp
    · by_cases h3 : n = 0
      · subst h3; simp
      · simp [h2, h3]
  · by_cases h0 : k = 0
    · subst h0
      by_cases h3 : n = 0
      · subst h3; simp
      · simp [h3]
    · by_cases h2 : k = 2
      · subst h2; simp
      · by_cases h3 : k = 3
        · subst h3; simp
        · by_cases h4 : k = 4
          · subst h4
            by_cases h5 : n = 0
            · subst h5; simp; omega
            · simp [h5]
          · by_cases h6 : k = 5
            · subst h6
              by_cases h5 : n = 0
              · subst h5; simp; omega
              · simp [h5]
            · simp [h1, h0, h2, h3, h4, h6]

def digTab : Bs := [48, 49, 50, 51, 52, 53, 54, 55, 56, 57]
theorem cut10_fin : ∀ i : Fin 10, List.drop i.val (List.take (i.val + 1) digTab) = [UInt8.ofNat (48 + i.val)] := by decide
theorem cut16_fin : ∀ i : Fin 16, List.drop i.val (List.take (i.val + 1) hexTab) = [hx i.val] := by decide

/-- A number's figures; none of nought. -/
def dg0 (u : Nat) : Bs := if u = 0 then [] else Lib.decDigits u

theorem dg0_step {u : Nat} (h : u ≠ 0) : dg0 u = dg0 (u / 10) ++ [UInt8.ofNat (48 + u % 10)] := by
  unfold dg0
  rw [if_neg h]
  by_cases h1 : u < 10
  · rw [if_pos (by omega), dig_lt h1, Nat.mod_eq_of_lt h1]; rfl
  · rw [if_neg (by omega), dig_ge h1]

theorem dg0_len {u : Nat} (h : u < 18446744073709551616) : (dg0 u).length ≤ 20 := by
  unfold dg0
  split
  · simp
  · exact dec_len h

theorem tmod_nat (u m : Nat) : Int.tmod (u : Int) (m : Int) = ((u % m : Nat) : Int) := by
  rw [Int.tmod_eq_emod_of_nonneg (by omega)]; omega
theorem tdiv_nat (u m : Nat) : Int.tdiv (u : Int) (m : Int) = ((u / m : Nat) : Int) := by
  rw [Int.tdiv_eq_ediv_of_nonneg (by omega)]; omega

theorem wrap_u64_nat {u : Nat} (h : u < 18446744073709551616) : IntKind.wrap .u64 (u : Int) = (u : Int) := wrap_u64_id (by omega) (by omega)

theorem digits_loop {N : Nat} {R : Type} {k0 : Bs → Option R} {least : Nat} (hl : least ≤ 4) : ∀ (u fuel z : Nat) (acc : Bs), u < 18446744073709551616 → z = least - (acc.length + (dg0 u).length) → (dg0 u).length + z < fuel → acc.length + (dg0 u).length ≤ 30 →
    ref02_digits_l0 N R k0 fuel (u : Int) (least : Int) acc = k0 (List.replicate z 48 ++ (dg0 u ++ acc)) := by
  intro u
  induction u using Nat.strongRecOn with
  | ind u ih =>
    intro fuel z acc hu hz hf ha
    have cut : ∀ v : Nat, v < 18446744073709551616 → (IntKind.wrap .u64 (Int.tmod (v : Int) 10 + 1) = ((v % 10 + 1 : Nat) : Int)) ∧ List.drop (Int.toNat (Int.tmod (v : Int) 10)) (List.take (Int.toNat (IntKind.wrap .u64 (Int.tmod (v : Int) 10 + 1))) ([48, 49, 50, 51, 52, 53, 54, 55, 56, 57] : List UInt8)) = [UInt8.ofNat (48 + v % 10)] ∧ Int.tmod (v : Int) 10 = ((v % 10 : Nat) : Int) ∧ IntKind.wrap .u64 (Int.tdiv (v : Int) 10) = ((v / 10 : Nat) : Int) := by
      intro v hv
      have e1 := tmod_nat v 10
      have e2 := tdiv_nat v 10
      have e3 : IntKind.wrap .u64 (Int.tmod (v : Int) 10 + 1) = ((v % 10 + 1 : Nat) : Int) := by
        show IntKind.wrap .u64 (Int.tmod (v : Int) ((10 : Nat) : Int) + 1) = _
        rw [e1, wrap_u64_id (by omega) (by omega)]; rfl
      refine ⟨e3, ?_, e1, ?_⟩
      · rw [e3]
        show List.drop (Int.toNat (Int.tmod (v : Int) ((10 : Nat) : Int))) _ = _
        rw [e1, Int.toNat_natCast, Int.toNat_natCast]
        exact cut10_fin ⟨v % 10, Nat.mod_lt _ (by decide)⟩
      · show IntKind.wrap .u64 (Int.tdiv (v : Int) ((10 : Nat) : Int)) = _
        rw [e2, wrap_u64_nat (by omega)]
    by_cases h0 : u = 0
    · subst h0
      -- nought: zeros ahead
      have zeros : ∀ (z fuel : Nat) (acc : Bs), z = least - acc.length → z < fuel → acc.length ≤ 30 → ref02_digits_l0 N R k0 fuel 0 (least : Int) acc = k0 (List.replicate z 48 ++ acc) := by
        intro z
        induction z with
        | zero =>
          intro fuel acc h1 h2 _
          obtain ⟨f, rfl⟩ : ∃ f, fuel = f + 1 := ⟨fuel - 1, by omega⟩
          show ref02_digits_l0B N R _ k0 0 (least : Int) acc = _
          unfold ref02_digits_l0B
          rw [if_f (by decide), if_f (by omega)]
          rfl
        | succ z ihz =>
          intro fuel acc h1 h2 h3
          obtain ⟨f, rfl⟩ : ∃ f, fuel = f + 1 := ⟨fuel - 1, by omega⟩
          show ref02_digits_l0B N R (ref02_digits_l0 N R k0 f) k0 0 (least : Int) acc = _
          unfold ref02_digits_l0B
          have hr : room 1 (([48] : Bs).length + acc.length) = true := room_one (by simp; omega)
          have step : ref02_digits_l0 N R k0 f 0 (least : Int) ([48] ++ acc) = k0 (List.replicate (z + 1) 48 ++ acc) := by
            rw [ihz f ([48] ++ acc) (by simp; omega) (by omega) (by simp; omega)]
            congr 1
            rw [List.replicate_succ', List.append_assoc]
          have e48 : List.drop (Int.toNat (Int.tmod 0 10)) (List.take (Int.toNat (IntKind.wrap .u64 (Int.tmod 0 10 + 1))) ([48, 49, 50, 51, 52, 53, 54, 55, 56, 57] : List UInt8)) = [48] := by decide
          have e0 : IntKind.wrap .u64 (Int.tdiv 0 10) = 0 := by decide
          rw [if_f (by decide), if_t (by omega), if_t (by decide), if_t (by decide), e48, e0, cond_t hr]
          exact step
      have e : dg0 0 = [] := rfl
      rw [e] at hz hf ha
      simp only [List.length_nil] at hz hf ha
      rw [e, List.nil_append]
      exact zeros z fuel acc hz (by omega) (by omega)
    · obtain ⟨f, rfl⟩ : ∃ f, fuel = f + 1 := ⟨fuel - 1, by omega⟩
      have hs := dg0_step h0
      have hlen := congrArg List.length hs
      simp only [List.length_append, List.length_cons, List.length_nil] at hlen
      obtain ⟨c1, c2, c3, c4⟩ := cut u hu
      show ref02_digits_l0B N R (ref02_digits_l0 N R k0 f) k0 (u : Int) (least : Int) acc = _
      unfold ref02_digits_l0B
      rw [if_t (by omega), c2, c4, c1, c3, if_t (by omega), if_t (by omega), cond_t (room_one (by simp; omega)), ih (u / 10) (by omega) f z _ (by omega) (by simp; omega) (by omega) (by simp; omega)]
      congr 2
      rw [hs, List.append_assoc]

theorem digits_eq {N : Nat} (hN : 1000 < N) {u least : Nat} (hl : least ≤ 4) (hu : u < 18446744073709551616) : ref02_digits N (u : Int) (least : Int) = some (List.replicate (least - (dg0 u).length) 48 ++ dg0 u, ()) := by
  unfold ref02_digits ref02_digits_cps
  have := dg0_len hu
  rw [digits_loop hl u N (least - (dg0 u).length) [] hu (by simp) (by omega) (by simp; omega), List.append_nil]

theorem dg_one (u : Nat) : List.replicate (1 - (dg0 u).length) 48 ++ dg0 u = Lib.decDigits u := by
  unfold dg0
  by_cases h : u = 0
  · subst h; rw [if_pos rfl, dig_lt (by decide)]; rfl
  · rw [if_neg h]
    have := dec_len_pos u
    rw [show 1 - (Lib.decDigits u).length = 0 by omega]; rfl

/-- The last m figures. -/
def dgw : Nat → Nat → Bs
  | 0, _ => []
  | m + 1, u => dgw m (u / 10) ++ [UInt8.ofNat (48 + u % 10)]

theorem dgw_len : ∀ m u, (dgw m u).length = m
  | 0, _ => rfl
  | m + 1, u => by simp [dgw, dgw_len m]

theorem dgw_dec : ∀ (m u : Nat), 10 ^ m ≤ u → Lib.decDigits u = Lib.decDigits (u / 10 ^ m) ++ dgw m u
  | 0, u, _ => by simp [dgw]
  | m + 1, u, h => by
    have hp : 10 ^ (m + 1) = 10 ^ m * 10 := rfl
    have h1 : 1 ≤ 10 ^ m := Nat.pow_pos (by decide)
    have h2 : ¬ u < 10 := by omega
    have h3 : 10 ^ m ≤ u / 10 := by rw [Nat.le_div_iff_mul_le (by decide)]; omega
    rw [dig_ge h2, dgw_dec m (u / 10) h3, dgw, Nat.div_div_eq_div_mul, hp, Nat.mul_comm 10, List.append_assoc]

theorem dgw_pad : ∀ (m r : Nat), r < 10 ^ m → List.replicate (m - (dg0 r).length) 48 ++ dg0 r = dgw m r
  | 0, r, h => by
    have : r = 0 := by simpa using h
    subst this; rfl
  | m + 1, r, h => by
    have hp : 10 ^ (m + 1) = 10 ^ m * 10 := rfl
    have ih := dgw_pad m (r / 10) (by omega)
    rw [dgw, ← ih]
    by_cases h0 : r = 0
    · subst h0
      have : dg0 0 = [] := rfl
      simp only [Nat.zero_div, this, List.length_nil, Nat.sub_zero, List.append_nil]
      rw [List.replicate_succ']
      rfl
    · rw [dg0_step h0, List.append_assoc]
      simp

theorem dgw4 (u : Nat) : dgw 4 (u % 10000) = dgw 4 u := by
  simp only [dgw]
  have e0 : u % 10000 % 10 = u % 10 := by omega
  have e1 : u % 10000 / 10 % 10 = u / 10 % 10 := by omega
  have e2 : u % 10000 / 10 / 10 % 10 = u / 10 / 10 % 10 := by omega
  have e3 : u % 10000 / 10 / 10 / 10 % 10 = u / 10 / 10 / 10 % 10 := by omega
  rw [e0, e1, e2, e3]

theorem pad_split (u : Nat) : pad (Lib.decDigits u) = Lib.decDigits (u / 10000) ++ dgw 4 u := by
  unfold pad
  by_cases h : 10000 ≤ u
  · have := dgw_dec 4 u h
    have h1 := dec_len_pos (u / 10000)
    have hl := congrArg List.length this
    simp only [List.length_append, dgw_len] at hl
    rw [show (10 : Nat) ^ 4 = 10000 from rfl] at hl this
    rw [show 5 - (Lib.decDigits u).length = 0 by omega]
    simpa using this
  · have h0 : u / 10000 = 0 := by omega
    have e0 : Lib.decDigits 0 = [48] := by rw [dig_lt (by decide)]; rfl
    rw [h0, e0]
    by_cases hu : u = 0
    · subst hu; rw [e0]; decide
    · have := dgw_pad 4 u (by show u < 10000; omega)
      have e : dg0 u = Lib.decDigits u := by unfold dg0; rw [if_neg hu]
      rw [e] at this
      have hl := congrArg List.length this
      simp only [List.length_append, dgw_len, List.length_replicate] at hl
      have h4 : (Lib.decDigits u).length ≤ 4 := by omega
      rw [← this, show 5 - (Lib.decDigits u).length = (4 - (Lib.decDigits u).length) + 1 by omega, List.replicate_succ]
      rfl

theorem dotted_split (u : Nat) : dotted (pad (Lib.decDigits u)) = Lib.decDigits (u / 10000) ++ 46 :: dgw 4 u := by
  rw [pad_split]
  unfold dotted
  have h : (Lib.decDigits (u / 10000) ++ dgw 4 u).length - 4 = (Lib.decDigits (u / 10000)).length := by simp [dgw_len]
  rw [h, List.take_left', List.drop_left'] <;> rfl

theorem text_l2 {N : Nat} {R : Type} {k0 : Bs → Int → Int → Bs → Option R} {s : Bs} (hs : s.length ≤ 1000) {a b : Int} : ∀ (m i fuel : Nat) (acc : Bs), i + m = s.length → m < fuel → acc.length ≤ 2 * i →
    ref02_Text_l2 N R k0 fuel acc (i : Int) a b s = k0 (acc ++ hexs (s.drop i)) a b s := by
  intro m
  induction m with
  | zero =>
    intro i fuel acc h1 h2 h3
    obtain ⟨f, rfl⟩ : ∃ f, fuel = f + 1 := ⟨fuel - 1, by omega⟩
    show ref02_Text_l2B N R _ k0 acc (i : Int) a b s = _
    unfold ref02_Text_l2B
    rw [if_f (by omega), List.drop_eq_nil_of_le (by omega)]
    simp [hexs]
  | succ m ih =>
    intro i fuel acc h1 h2 h3
    obtain ⟨f, rfl⟩ : ∃ f, fuel = f + 1 := ⟨fuel - 1, by omega⟩
    have hi : i < s.length := by omega
    have hc := s[i].toNat_lt
    have e := List.drop_eq_getElem_cons hi
    have d1 : IntKind.wrap .u8 (Int.tdiv (s[i].toNat : Int) 16) = ((s[i].toNat / 16 : Nat) : Int) := by
      show IntKind.wrap .u8 (Int.tdiv (s[i].toNat : Int) ((16 : Nat) : Int)) = _
      rw [tdiv_nat, wrap_u8_id (by omega) (by omega)]
    have d2 : IntKind.wrap .u8 (((s[i].toNat / 16 : Nat) : Int) + 1) = ((s[i].toNat / 16 + 1 : Nat) : Int) := by
      rw [wrap_u8_id (by omega) (by omega)]; rfl
    have d3 : Int.tmod (s[i].toNat : Int) 16 = ((s[i].toNat % 16 : Nat) : Int) := tmod_nat _ 16
    have d4 : IntKind.wrap .u8 (((s[i].toNat % 16 : Nat) : Int) + 1) = ((s[i].toNat % 16 + 1 : Nat) : Int) := by
      rw [wrap_u8_id (by omega) (by omega)]; rfl
    have c1 := cut16_fin ⟨s[i].toNat / 16, by omega⟩
    have c2 := cut16_fin ⟨s[i].toNat % 16, by omega⟩
    have c1' : List.drop (s[i].toNat / 16) (List.take (s[i].toNat / 16 + 1) ([48, 49, 50, 51, 52, 53, 54, 55, 56, 57, 97, 98, 99, 100, 101, 102] : List UInt8)) = [hx (s[i].toNat / 16)] := c1
    have c2' : List.drop (s[i].toNat % 16) (List.take (s[i].toNat % 16 + 1) ([48, 49, 50, 51, 52, 53, 54, 55, 56, 57, 97, 98, 99, 100, 101, 102] : List UInt8)) = [hx (s[i].toNat % 16)] := c2
    show ref02_Text_l2B N R (ref02_Text_l2 N R k0 f) k0 acc (i : Int) a b s = _
    unfold ref02_Text_l2B
    rw [if_t (by omega), nth_lt hi]
    simp only [bind_some', d1, d2, d3, d4, Int.toNat_natCast, c1', c2']
    rw [if_t (by omega), if_t (by omega), cond_t (room_one (by simp; omega)), if_t (by omega), if_t (by omega), cond_t (room_one (by simp; omega)), wrap_succ hi (by omega), ih (i + 1) f _ (by omega) (by omega) (by simp; omega), e]
    simp [hexs]

theorem text_l3 {N : Nat} {R : Type} {k0 : Bs → Int → Int → Bs → Option R} {s : Bs} (hs : s.length ≤ 1000) {a b : Int} : ∀ (m i fuel : Nat) (acc : Bs), i + m = s.length → m < fuel → acc.length ≤ 2 * i →
    ref02_Text_l3 N R k0 fuel acc (i : Int) a b s = k0 (acc ++ dbl (s.drop i)) a b s := by
  intro m
  induction m with
  | zero =>
    intro i fuel acc h1 h2 h3
    obtain ⟨f, rfl⟩ : ∃ f, fuel = f + 1 := ⟨fuel - 1, by omega⟩
    show ref02_Text_l3B N R _ k0 acc (i : Int) a b s = _
    unfold ref02_Text_l3B
    rw [if_f (by omega), List.drop_eq_nil_of_le (by omega)]
    simp [dbl]
  | succ m ih =>
    intro i fuel acc h1 h2 h3
    obtain ⟨f, rfl⟩ : ∃ f, fuel = f + 1 := ⟨fuel - 1, by omega⟩
    have hi : i < s.length := by omega
    have e := List.drop_eq_getElem_cons hi
    have w1 : IntKind.wrap .i64 ((i : Int) + 1) = ((i + 1 : Nat) : Int) := wrap_succ hi (by omega)
    have c1 : List.drop i (List.take (i + 1) s) = [s[i]] := by
      rw [List.drop_take, e, show i + 1 - i = 1 by omega]; rfl
    show ref02_Text_l3B N R (ref02_Text_l3 N R k0 f) k0 acc (i : Int) a b s = _
    unfold ref02_Text_l3B
    rw [if_t (by omega), w1]
    simp only [Int.toNat_natCast, c1]
    rw [if_t (by omega), if_t (by omega), cond_t (room_one (by simp; omega)), nth_lt hi, bind_some', e]
    unfold dbl
    by_cases h : s[i] = 39
    · rw [if_t (by rw [h]; rfl), cond_t (room_one (by simp; omega)), ih (i + 1) f _ (by omega) (by omega) (by simp; omega), if_pos h, h]
      simp
    · have hn : ¬ ((s[i].toNat : Int) = 39) := fun hh => h (UInt8.toNat_inj.1 (by show s[i].toNat = 39; omega))
      rw [if_f hn, ih (i + 1) f _ (by omega) (by omega) (by simp; omega), if_neg h]
      simp

theorem size_eq (N : Nat) {n : Int} (hn : I64 n) : ref02_size N n = some ((n.natAbs : Int), (sgn n, ())) := by
  obtain ⟨h1, h2⟩ := hn
  unfold ref02_size ref02_size_cps sgn
  by_cases h : n < 0
  · rw [if_t h, if_pos h, wrap_i64_id (x := n + 1) (by omega) (by omega), wrap_i64_id (x := 0 - (n + 1)) (by omega) (by omega), wrap_u64_id (x := 0 - (n + 1)) (by omega) (by omega), wrap_u64_id (by omega) (by omega)]
    have : (0 - (n + 1) + 1 : Int) = (n.natAbs : Int) := by omega
    rw [this]
  · rw [if_f h, if_neg h, wrap_u64_id (by omega) (by omega)]
    have : n = (n.natAbs : Int) := by omega
    rw [← this]

theorem rtext_eq {N : Nat} (hN : 1000000 < N) {k n : Int} {s : Bs} (hn : I64 n) : ref02_Text N k n s = some (txt k n s, ()) := by
  have hu : n.natAbs < 18446744073709551616 := by obtain ⟨h1, h2⟩ := hn; omega
  have hsg : (sgn n).length ≤ 1 := by unfold sgn; split <;> simp
  unfold ref02_Text ref02_Text_cps
  rw [rright_eq, bind_some', size_eq N hn, bind_some']
  unfold txt
  cases hr : rightB k n s with
  | false => rfl
  | true =>
    rw [cond_f (show (!true) = false from rfl), if_neg (by simp)]
    by_cases h0 : k = 0
    · rw [if_t h0, if_pos h0]
    · rw [if_f h0, if_neg h0]
      by_cases h1 : k = 1
      · subst h1
        rw [if_t rfl, if_pos rfl]
        unfold rightB at hr
        rw [if_pos rfl] at hr
        obtain ⟨hh, _⟩ := of_decide_eq_true hr
        rcases hh with rfl | rfl
        · rfl
        · rfl
      · rw [if_f h1, if_neg h1]
        unfold ref02_Text_j0
        rw [cond_f rfl, if_f h1]
        dsimp only
        by_cases h2 : k = 2
        · have := dg0_len hu
          rw [if_t h2, if_pos h2, show (1 : Int) = ((1 : Nat) : Int) from rfl, digits_eq (by omega) (by decide) hu, bind_some', dg_one, cond_t (room_one (by have := dec_len hu; simp; omega)), itoa_eq]
        · rw [if_f h2, if_neg h2]
          by_cases h3 : k = 3
          · have e1 : IntKind.wrap .u64 (Int.tdiv (n.natAbs : Int) 10000) = ((n.natAbs / 10000 : Nat) : Int) := by
              show IntKind.wrap .u64 (Int.tdiv (n.natAbs : Int) ((10000 : Nat) : Int)) = _
              rw [tdiv_nat, wrap_u64_nat (by omega)]
            have e2 : Int.tmod (n.natAbs : Int) 10000 = ((n.natAbs % 10000 : Nat) : Int) := tmod_nat _ 10000
            have l1 := dec_len (u := n.natAbs / 10000) (by omega)
            have p4 := dgw_pad 4 (n.natAbs % 10000) (by show _ < 10000; omega)
            rw [if_t h3, if_pos h3, e1, e2, show (1 : Int) = ((1 : Nat) : Int) from rfl, show (4 : Int) = ((4 : Nat) : Int) from rfl, digits_eq (by omega) (by decide) (by omega), bind_some', digits_eq (by omega) (by decide) (by omega)]
            dsimp only
            rw [dg_one, p4, dgw4, cond_t (room_one (by omega)), cond_t (room_one (by simp; omega)), bind_some', cond_t (room_one (by simp [dgw_len]; omega))]
            unfold decT
            rw [dotted_split]
            simp
          · have hk : k = 4 ∨ k = 5 := by
              unfold rightB at hr
              rw [if_neg h1, if_neg h0, if_neg (by omega)] at hr
              split at hr
              · assumption
              · cases hr
            have hl : n = 0 ∧ s.length ≤ 200 := by
              unfold rightB at hr
              rw [if_neg h1, if_neg h0, if_neg (by omega), if_pos hk] at hr
              exact of_decide_eq_true hr
            rw [if_f h3, if_neg h3]
            unfold ref02_Text_j1
            have hh := hexs_len s
            have hd := dbl_len s
            by_cases h5 : k = 5
            · rw [if_t h5, if_pos h5]
              refine (text_l2 (by omega) s.length 0 N [] (by omega) (by omega) (by simp)).trans ?_
              rw [List.drop_zero, List.nil_append, cond_t (room_one (by simp; omega)), cond_t (room_one (by simp; omega))]
              rfl
            · rw [if_f h5, if_neg h5]
              refine (text_l3 (by omega) s.length 0 N [] (by omega) (by omega) (by simp)).trans ?_
              rw [List.drop_zero, List.nil_append, cond_t (room_one (by simp; omega)), cond_t (room_one (by simp; omega))]
              rfl

/-- A right value's text is not long. -/
theorem txt_len2 {k n : Int} {s : Bs} (hn : I64 n) (hr : rightB k n s = true) : (txt k n s).length ≤ 403 := by
  have hu : n.natAbs < 18446744073709551616 := by obtain ⟨h1, h2⟩ := hn; omega
  have hsg : (sgn n).length ≤ 1 := by unfold sgn; split <;> simp
  have h20 := dec_len hu
  unfold txt
  rw [if_neg (by rw [hr]; simp)]
  split
  · simp
  · split
    · split <;> simp
    · split
      · rw [itoa_eq]; simp; omega
      · split
        · unfold decT
          rw [dotted_split]
          have := dec_len (u := n.natAbs / 10000) (by omega)
          simp [dgw_len]; omega
        · rename_i h0 h1 h2 h3
          have hl : s.length ≤ 200 := by
            unfold rightB at hr
            rw [if_neg h1, if_neg h0, if_neg (by omega)] at hr
            split at hr
            · exact (of_decide_eq_true hr).2
            · cases hr
          have hh := hexs_len s
          have hd := dbl_len s
          split <;> simp <;> omega

end Go.Proofs.YtmpglmalfkkokaaGreatDoor.E
