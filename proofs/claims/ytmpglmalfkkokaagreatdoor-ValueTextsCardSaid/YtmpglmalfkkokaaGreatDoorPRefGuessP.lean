/-
  Plain laws of the pure functions.
  Conditions: those that each statement prints, and no other.
-/
import Derived.Test.YtmpglmalfkkokaaGreatDoorPRefTextP
set_option linter.unusedVariables false
set_option linter.unusedSimpArgs false
/-! What a text is read as, as the document has it. -/
namespace Go.Proofs.YtmpglmalfkkokaaGreatDoor.E
open Go.Ev

/-- What figures come to. -/
def digV (acc : Nat) (l : Bs) : Nat := l.foldl (fun a c => 10 * a + (c.toNat - 48)) acc
theorem digV_cons (acc : Nat) (c : UInt8) (r : Bs) : digV acc (c :: r) = digV (10 * acc + (c.toNat - 48)) r := by
  unfold digV
  rw [List.foldl_cons]
theorem digV_nil (acc : Nat) : digV acc [] = acc := by
  unfold digV
  rw [List.foldl_nil]

theorem digV_app (a b : Bs) : ∀ acc : Nat, digV acc (a ++ b) = digV (digV acc a) b := by
  induction a with
  | nil => intro acc; rw [List.nil_append, digV_nil]
  | cons c a ih => intro acc; rw [List.cons_append, digV_cons, digV_cons, ih]

theorem digV_le (a : Bs) : ∀ acc : Nat, acc ≤ digV acc a := by
  induction a with
  | nil => intro acc; rw [digV_nil]; exact Nat.le_refl _
  | cons c a ih => intro acc; rw [digV_cons]; exact Nat.le_trans (by omega) (ih (10 * acc + (c.toNat - 48)))

theorem digV_dec (u : Nat) : digV 0 (Lib.decDigits u) = u := by
  have e : ∀ d, d < 10 → (UInt8.ofNat (48 + d)).toNat - 48 = d := fun d hd => by simp; omega
  induction u using Nat.strongRecOn with
  | ind u ih =>
    by_cases h : u < 10
    · rw [dig_lt h, digV_cons, digV_nil, e u h]; omega
    · rw [dig_ge h, digV_app, ih (u / 10) (by omega), digV_cons, digV_nil, e _ (by omega)]; omega

theorem digV_zeros (l : Bs) (k : Nat) : digV 0 (List.replicate k 48 ++ l) = digV 0 l := by
  induction k with
  | zero => rw [List.replicate_zero, List.nil_append]
  | succ k ih =>
    have e : 10 * 0 + ((48 : UInt8).toNat - 48) = 0 := rfl
    rw [List.replicate_succ, List.cons_append, digV_cons, e, ih]

theorem fig_loop {N : Nat} {R : Type} {k0 : Bs → Bool → Int → Option R} {k1 : Bs → Bool → Int → Bool → Int → Option R} {s : Bs} {neg : Bool} {most : Nat} (hm1 : 9 ≤ most) (hm2 : most ≤ 9223372036854775808) (hs : s.length ≤ 1000) : ∀ (m i acc fuel : Nat), i + m = s.length → m < fuel → acc ≤ most →
    (∃ r : Nat, r ≤ most ∧ ref02_figures_l1 N R k0 k1 fuel s neg (acc : Int) (most : Int) (i : Int) = k0 s neg (r : Int) ∧ r = digV acc (s.drop i)) ∨
      (∃ x y z, ref02_figures_l1 N R k0 k1 fuel s neg (acc : Int) (most : Int) (i : Int) = k1 x y 0 false z ∧ ((∀ c ∈ s.drop i, isFig c) → ¬ digV acc (s.drop i) ≤ most)) := by
  intro m
  induction m with
  | zero =>
    intro i acc fuel h1 h2 h3
    obtain ⟨f, rfl⟩ : ∃ f, fuel = f + 1 := ⟨fuel - 1, by omega⟩
    refine .inl ⟨acc, h3, ?_, by rw [List.drop_eq_nil_of_le (by omega), digV_nil]⟩
    show ref02_figures_l1B N R _ k0 k1 s neg (acc : Int) (most : Int) (i : Int) = _
    unfold ref02_figures_l1B
    rw [if_f (by omega)]
  | succ m ih =>
    intro i acc fuel h1 h2 h3
    obtain ⟨f, rfl⟩ : ∃ f, fuel = f + 1 := ⟨fuel - 1, by omega⟩
    have hi : i < s.length := by omega
    have e := List.drop_eq_getElem_cons hi
    have hc := s[i].toNat_lt
    show (∃ r : Nat, r ≤ most ∧ ref02_figures_l1B N R (ref02_figures_l1 N R k0 k1 f) k0 k1 s neg (acc : Int) (most : Int) (i : Int) = k0 s neg (r : Int) ∧ r = digV acc (s.drop i)) ∨
      (∃ x y z, ref02_figures_l1B N R (ref02_figures_l1 N R k0 k1 f) k0 k1 s neg (acc : Int) (most : Int) (i : Int) = k1 x y 0 false z ∧ ((∀ c ∈ s.drop i, isFig c) → ¬ digV acc (s.drop i) ≤ most))
    unfold ref02_figures_l1B ref02_figures_j2
    rw [if_t (by omega), nth_lt hi, e]
    simp only [bind_some']
    by_cases c1 : s[i].toNat < 48
    · rw [if_t (by omega)]
      exact .inr ⟨_, _, _, rfl, fun h => by have := (h s[i] List.mem_cons_self).1; omega⟩
    · rw [if_f (by omega)]
      by_cases c2 : 57 < s[i].toNat
      · rw [if_t (by omega)]
        exact .inr ⟨_, _, _, rfl, fun h => by have := (h s[i] List.mem_cons_self).2; omega⟩
      · rw [if_f (by omega)]
        have w1 : IntKind.wrap .u64 (IntKind.wrap .u8 ((s[i].toNat : Int) - 48)) = ((s[i].toNat - 48 : Nat) : Int) := by
          rw [wrap_u8_id (by omega) (by omega), wrap_u64_id (by omega) (by omega)]; omega
        have w2 : IntKind.wrap .u64 ((most : Int) - ((s[i].toNat - 48 : Nat) : Int)) = ((most - (s[i].toNat - 48) : Nat) : Int) := by
          rw [wrap_u64_id (by omega) (by omega)]; omega
        have w3 : IntKind.wrap .u64 (Int.tdiv ((most - (s[i].toNat - 48) : Nat) : Int) 10) = (((most - (s[i].toNat - 48)) / 10 : Nat) : Int) := by
          show IntKind.wrap .u64 (Int.tdiv ((most - (s[i].toNat - 48) : Nat) : Int) ((10 : Nat) : Int)) = _
          rw [tdiv_nat, wrap_u64_nat (by omega)]
        rw [w1, w2, w3]
        by_cases c3 : (most - (s[i].toNat - 48)) / 10 < acc
        · rw [if_t (by omega)]
          refine .inr ⟨_, _, _, rfl, fun _ h => ?_⟩
          rw [digV_cons] at h
          have := digV_le (s.drop (i + 1)) (10 * acc + (s[i].toNat - 48))
          omega
        · rw [if_f (by omega)]
          have w4 : IntKind.wrap .u64 (IntKind.wrap .u64 (10 * (acc : Int)) + ((s[i].toNat - 48 : Nat) : Int)) = ((10 * acc + (s[i].toNat - 48) : Nat) : Int) := by
            rw [wrap_u64_id (x := 10 * (acc : Int)) (by omega) (by omega), wrap_u64_id (by omega) (by omega)]; omega
          rw [w4, wrap_succ hi (by omega)]
          rcases ih (i + 1) (10 * acc + (s[i].toNat - 48)) f (by omega) (by omega) (by omega) with ⟨r, r1, r2, r3⟩ | ⟨x, y, z, r1, r2⟩
          · exact .inl ⟨r, r1, r2, r3⟩
          · exact .inr ⟨x, y, z, r1, fun h => r2 (fun c hc => h c (List.mem_cons_of_mem _ hc))⟩

def bnd (neg : Bool) : Nat := if neg then 9223372036854775808 else 9223372036854775807
def sgd (neg : Bool) (u : Nat) : Int := if neg then -(u : Int) else u

theorem figures_ex {N : Nat} (hN : 1000000 < N) (F : Bs) (hF : F.length ≤ 1000) (neg : Bool) : ∃ (r : Int) (ok : Bool), ref02_figures N F neg = some (r, (ok, ())) ∧ I64 r ∧ ((∀ c ∈ F, isFig c) → F ≠ [] → digV 0 F ≤ bnd neg → ok = true ∧ r = sgd neg (digV 0 F)) := by
  have key : ∀ (most : Nat), most = bnd neg → ∃ (r : Int) (ok : Bool), ref02_figures_j0 N (Int × Bool × Unit) (fun v3 v4 => some (v3, (v4, ()))) F neg 0 (most : Int) = some (r, (ok, ())) ∧ I64 r ∧ ((∀ c ∈ F, isFig c) → F ≠ [] → digV 0 F ≤ bnd neg → ok = true ∧ r = sgd neg (digV 0 F)) := by
    intro most hmost
    have hb : 9 ≤ most ∧ most ≤ 9223372036854775808 := by rw [hmost]; unfold bnd; split <;> omega
    unfold ref02_figures_j0
    rcases fig_loop (N := N) (R := Int × Bool × Unit) (k0 := fun v11 v12 v13 => bif v12 then
        (bif (decide (0 < v13)) then some ((IntKind.wrap .i64 ((IntKind.wrap .i64 (0 - (IntKind.wrap .i64 (IntKind.wrap .u64 (v13 - 1))))) - 1)), ((decide (0 < (v11.length : Int))), ()))
        else some ((IntKind.wrap .i64 v13), ((decide (0 < (v11.length : Int))), ())))
        else some ((IntKind.wrap .i64 v13), ((decide (0 < (v11.length : Int))), ()))) (k1 := fun v14 v15 v16 v17 v18 => some (v16, (v17, ()))) (s := F) (neg := neg) hb.1 hb.2 hF F.length 0 0 N (by omega) (by omega) (by omega) with ⟨r, r1, r2, r3⟩ | ⟨x, y, z, r1, r2⟩
    · rw [List.drop_zero] at r3
      have hlen : F ≠ [] → decide (0 < (F.length : Int)) = true := fun h => by
        have := List.length_pos_iff.2 h
        exact decide_eq_true (by omega)
      cases neg with
      | false =>
        have hb2 : most = 9223372036854775807 := hmost
        refine ⟨(r : Int), decide (0 < (F.length : Int)), r2.trans ?_, ⟨by omega, by omega⟩, fun _ h _ => ⟨hlen h, by rw [← r3]; rfl⟩⟩
        rw [cond_f rfl, wrap_i64_id (by omega) (by omega)]
      | true =>
        by_cases h0 : 0 < r
        · refine ⟨-(r : Int), decide (0 < (F.length : Int)), r2.trans ?_, ⟨by omega, by omega⟩, fun _ h _ => ⟨hlen h, by rw [← r3]; rfl⟩⟩
          rw [cond_t rfl, if_t (by omega), wrap_u64_id (x := (r : Int) - 1) (by omega) (by omega), wrap_i64_id (x := (r : Int) - 1) (by omega) (by omega), wrap_i64_id (x := 0 - ((r : Int) - 1)) (by omega) (by omega), wrap_i64_id (by omega) (by omega)]
          have : (0 - ((r : Int) - 1) - 1) = -(r : Int) := by omega
          rw [this]
        · have hr0 : r = 0 := by omega
          subst hr0
          refine ⟨0, decide (0 < (F.length : Int)), r2.trans ?_, ⟨by decide, by decide⟩, fun _ h _ => ⟨hlen h, by rw [← r3]; rfl⟩⟩
          rw [cond_t rfl, if_f (by omega)]
          rfl
    · rw [List.drop_zero] at r2
      exact ⟨0, false, r1, ⟨by decide, by decide⟩, fun h _ h3 => absurd (hmost ▸ h3) (r2 h)⟩
  unfold ref02_figures ref02_figures_cps
  cases neg with
  | true => exact key _ rfl
  | false => exact key _ rfl

theorem hx_inj_fin : ∀ i j : Fin 16, hx i.val = hx j.val → i = j := by decide

theorem hex_ex {N : Nat} (hN : 1000 < N) (c : UInt8) : ∃ h : Int, ref02_hex N (c.toNat : Int) = some (h, ()) ∧ -1 ≤ h ∧ h < 16 ∧ ∀ k : Nat, k < 16 → c = hx k → h = (k : Int) := by
  have loop : ∀ (m i fuel : Nat), i + m = 16 → m < fuel → (∃ j : Nat, j < 16 ∧ ref02_hex_l0 N (Int × Unit) (some (-1, ())) (fun v2 => some (v2, ())) fuel (c.toNat : Int) (i : Int) = some ((j : Int), ()) ∧ hx j = c) ∨
      (ref02_hex_l0 N (Int × Unit) (some (-1, ())) (fun v2 => some (v2, ())) fuel (c.toNat : Int) (i : Int) = some (-1, ()) ∧ ∀ j : Nat, i ≤ j → j < 16 → hx j ≠ c) := by
    intro m
    induction m with
    | zero =>
      intro i fuel h1 h2
      obtain ⟨f, rfl⟩ : ∃ f, fuel = f + 1 := ⟨fuel - 1, by omega⟩
      refine .inr ⟨?_, fun j j1 j2 => by omega⟩
      show ref02_hex_l0B N _ _ _ _ (c.toNat : Int) (i : Int) = _
      unfold ref02_hex_l0B
      rw [if_f (by omega)]
    | succ m ih =>
      intro i fuel h1 h2
      obtain ⟨f, rfl⟩ : ∃ f, fuel = f + 1 := ⟨fuel - 1, by omega⟩
      have hn : nth ([48, 49, 50, 51, 52, 53, 54, 55, 56, 57, 97, 98, 99, 100, 101, 102] : List UInt8) (i : Int) = some (hx i) := by rw [nth_nat]; exact hexTab_get (by omega)
      have st : ref02_hex_l0 N (Int × Unit) (some (-1, ())) (fun v2 => some (v2, ())) (f + 1) (c.toNat : Int) (i : Int) = if hx i = c then some ((i : Int), ()) else ref02_hex_l0 N (Int × Unit) (some (-1, ())) (fun v2 => some (v2, ())) f (c.toNat : Int) ((i + 1 : Nat) : Int) := by
        show ref02_hex_l0B N _ (ref02_hex_l0 N (Int × Unit) (some (-1, ())) (fun v2 => some (v2, ())) f) _ _ (c.toNat : Int) (i : Int) = _
        unfold ref02_hex_l0B
        rw [if_t (by omega), hn, bind_some']
        by_cases h : hx i = c
        · rw [if_t (by rw [h]), if_pos h]
        · have hne : ¬ (((hx i).toNat : Int) = (c.toNat : Int)) := fun e => h (UInt8.toNat_inj.1 (by omega))
          rw [if_f hne, if_neg h, wrap_i64_id (by omega) (by omega)]
          rfl
      rw [st]
      by_cases h : hx i = c
      · rw [if_pos h]; exact .inl ⟨i, by omega, rfl, h⟩
      · rw [if_neg h]
        rcases ih (i + 1) f (by omega) (by omega) with ⟨j, j1, j2, j3⟩ | ⟨j1, j2⟩
        · exact .inl ⟨j, j1, j2, j3⟩
        · refine .inr ⟨j1, fun j a b => ?_⟩
          by_cases e : i = j
          · subst e; exact h
          · exact j2 j (by omega) b
  unfold ref02_hex ref02_hex_cps
  rcases loop 16 0 N rfl (by omega) with ⟨j, j1, j2, j3⟩ | ⟨j1, j2⟩
  · refine ⟨(j : Int), j2, by omega, by omega, fun k hk e => ?_⟩
    have := hx_inj_fin ⟨j, j1⟩ ⟨k, hk⟩ (by rw [← e]; exact j3)
    injection this with this
    rw [this]
  · exact ⟨-1, j1, by omega, by omega, fun k hk e => absurd e.symm (j2 k (by omega) hk)⟩

theorem bytes_ex {N : Nat} (hN : 1000 < N) {R : Type} {k0 k1 : Bs → Int → Int → Bs → Option R} {s : Bs} (hs : s.length ≤ 1000) {a b : Int} {c : Bs} : ∀ (m i fuel : Nat) (acc : Bs), s.length ≤ i + m → i ≤ s.length → m < fuel → acc.length ≤ i →
    (∃ o, ref02_guess_l1 N R k0 k1 fuel s acc (i : Int) a b c = k0 o a b c ∧ ∀ t, s.drop i = hexs t ++ [39] → o = acc ++ t) ∨ (∃ o, ref02_guess_l1 N R k0 k1 fuel s acc (i : Int) a b c = k1 o 0 1 [] ∧ ∀ t, s.drop i ≠ hexs t ++ [39]) := by
  intro m
  induction m using Nat.strongRecOn with
  | ind m ih =>
    intro i fuel acc h1 h2 h3 h4
    obtain ⟨f, rfl⟩ : ∃ f, fuel = f + 1 := ⟨fuel - 1, by omega⟩
    have w2 : IntKind.wrap .i64 ((i : Int) + 2) = ((i + 2 : Nat) : Int) := by rw [wrap_i64_id (by omega) (by omega)]; rfl
    show (∃ o, ref02_guess_l1B N R (ref02_guess_l1 N R k0 k1 f) k0 k1 s acc (i : Int) a b c = k0 o a b c ∧ ∀ t, s.drop i = hexs t ++ [39] → o = acc ++ t) ∨ (∃ o, ref02_guess_l1B N R (ref02_guess_l1 N R k0 k1 f) k0 k1 s acc (i : Int) a b c = k1 o 0 1 [] ∧ ∀ t, s.drop i ≠ hexs t ++ [39])
    unfold ref02_guess_l1B
    rw [w2]
    by_cases hlt : i + 2 < s.length
    · have hi : i < s.length := by omega
      have hi1 : i + 1 < s.length := by omega
      have e0 := List.drop_eq_getElem_cons hi
      have e1 := List.drop_eq_getElem_cons hi1
      have w1 : IntKind.wrap .i64 ((i : Int) + 1) = ((i + 1 : Nat) : Int) := wrap_succ hi (by omega)
      obtain ⟨x, x1, x2, x3, x4⟩ := hex_ex hN s[i]
      obtain ⟨y, y1, y2, y3, y4⟩ := hex_ex hN s[i + 1]
      have dec : ∀ t, s.drop i = hexs t ++ [39] → ∃ d r, t = d :: r ∧ s[i] = hx (d.toNat / 16) ∧ s[i + 1] = hx (d.toNat % 16) ∧ s.drop (i + 1 + 1) = hexs r ++ [39] := by
        intro t ht
        cases t with
        | nil =>
          have := congrArg List.length ht
          simp [hexs] at this; omega
        | cons d r =>
          rw [e0, e1] at ht
          simp only [hexs, List.cons_append, List.cons.injEq] at ht
          exact ⟨d, r, rfl, ht.1, ht.2.1, ht.2.2⟩
      rw [if_t (by omega), nth_lt hi, bind_some', x1, bind_some', w1, nth_lt hi1, bind_some', y1, bind_some']
      dsimp only
      by_cases hx0 : x < 0
      · rw [if_t hx0]
        refine .inr ⟨acc, rfl, fun t ht => ?_⟩
        obtain ⟨d, r, rfl, d1, _⟩ := dec t ht
        have hd := d.toNat_lt
        have := x4 _ (by omega) d1
        omega
      · rw [if_f hx0]
        by_cases hy0 : y < 0
        · rw [if_t hy0]
          refine .inr ⟨acc, rfl, fun t ht => ?_⟩
          obtain ⟨d, r, rfl, _, d2, _⟩ := dec t ht
          have hd := d.toNat_lt
          have := y4 _ (by omega) d2
          omega
        · rw [if_f hy0, cond_t (room_one (by simp; omega))]
          rcases ih (m - 2) (by omega) (i + 2) f (acc ++ [UInt8.ofNat (Int.toNat (IntKind.wrap .u8 (IntKind.wrap .i64 (IntKind.wrap .i64 (16 * x) + y))))]) (by omega) (by omega) (by omega) (by simp; omega) with ⟨o, o1, o2⟩ | ⟨o, o1, o2⟩
          · refine .inl ⟨o, o1, fun t ht => ?_⟩
            obtain ⟨d, r, rfl, d1, d2, d3⟩ := dec t ht
            have hd := d.toNat_lt
            have f1 := x4 _ (by omega) d1
            have f2 := y4 _ (by omega) d2
            rw [o2 r d3, List.append_assoc]
            have : UInt8.ofNat (Int.toNat (IntKind.wrap .u8 (IntKind.wrap .i64 (IntKind.wrap .i64 (16 * x) + y)))) = d := by
              rw [wrap_i64_id (x := 16 * x) (by omega) (by omega), wrap_i64_id (by omega) (by omega), wrap_u8_id (by omega) (by omega)]
              have e : 16 * x + y = (d.toNat : Int) := by omega
              rw [e]; simp
            rw [this]; rfl
          · refine .inr ⟨o, o1, fun t ht => ?_⟩
            obtain ⟨d, r, rfl, d1, d2, d3⟩ := dec t ht
            exact o2 r d3
    · rw [if_f (by omega)]
      refine .inl ⟨acc, rfl, fun t ht => ?_⟩
      have := congrArg List.length ht
      simp [hexs_len] at this
      have : t = [] := List.eq_nil_of_length_eq_zero (by omega)
      rw [this]; simp

theorem text_ex {N : Nat} {R : Type} {k0 : Bs → Int → Int → Bs → Option R} {s : Bs} (hs : s.length ≤ 1000) {a b : Int} {c : Bs} : ∀ (m i fuel : Nat) (acc : Bs), s.length ≤ i + m → i ≤ s.length → m < fuel → acc.length ≤ i →
    ∃ o, ref02_guess_l3 N R k0 fuel s acc (i : Int) a b c = k0 o a b c ∧ ∀ t, s.drop i = dbl t ++ [39] → o = acc ++ t := by
  intro m
  induction m using Nat.strongRecOn with
  | ind m ih =>
    intro i fuel acc h1 h2 h3 h4
    obtain ⟨f, rfl⟩ : ∃ f, fuel = f + 1 := ⟨fuel - 1, by omega⟩
    have w1 : IntKind.wrap .i64 ((i : Int) + 1) = ((i + 1 : Nat) : Int) := by rw [wrap_i64_id (by omega) (by omega)]; rfl
    have w2 : IntKind.wrap .i64 (((i + 1 : Nat) : Int) + 1) = ((i + 2 : Nat) : Int) := by rw [wrap_i64_id (by omega) (by omega)]; rfl
    show ∃ o, ref02_guess_l3B N R (ref02_guess_l3 N R k0 f) k0 s acc (i : Int) a b c = k0 o a b c ∧ ∀ t, s.drop i = dbl t ++ [39] → o = acc ++ t
    unfold ref02_guess_l3B
    rw [w1, w2]
    by_cases hlt : i + 1 < s.length
    · have hi : i < s.length := by omega
      have e0 := List.drop_eq_getElem_cons hi
      have e1 := List.drop_eq_getElem_cons hlt
      have c1 : List.drop i (List.take (i + 1) s) = [s[i]] := by
        rw [List.drop_take, e0, show i + 1 - i = 1 by omega]; rfl
      simp only [Int.toNat_natCast, c1]
      rw [if_t (by omega), if_t (by omega), if_t (by omega), cond_t (room_one (by simp; omega)), nth_lt hi, bind_some']
      have dec : ∀ t, s.drop i = dbl t ++ [39] → ∃ d r, t = d :: r ∧ s[i] = d ∧ (d = 39 → s.drop (i + 1 + 1) = dbl r ++ [39]) ∧ (d ≠ 39 → s.drop (i + 1) = dbl r ++ [39]) := by
        intro t ht
        cases t with
        | nil =>
          have := congrArg List.length ht
          simp [dbl] at this; omega
        | cons d r =>
          unfold dbl at ht
          by_cases h : d = 39
          · rw [if_pos h, e0, e1] at ht
            simp only [List.cons_append, List.cons.injEq] at ht
            exact ⟨d, r, rfl, ht.1.trans h.symm, fun _ => ht.2.2, fun hh => absurd h hh⟩
          · rw [if_neg h, e0] at ht
            simp only [List.cons_append, List.cons.injEq] at ht
            exact ⟨d, r, rfl, ht.1, fun hh => absurd hh h, fun _ => ht.2⟩
      by_cases h : s[i] = 39
      · rw [if_t (by rw [h]; rfl)]
        obtain ⟨o, o1, o2⟩ := ih (m - 2) (by omega) (i + 2) f (acc ++ [s[i]]) (by omega) (by omega) (by omega) (by simp; omega)
        refine ⟨o, o1, fun t ht => ?_⟩
        obtain ⟨d, r, rfl, d1, d2, d3⟩ := dec t ht
        rw [o2 r (d2 (by rw [← d1]; exact h)), d1]; simp
      · have hn : ¬ ((s[i].toNat : Int) = 39) := fun hh => h (UInt8.toNat_inj.1 (by show s[i].toNat = 39; omega))
        rw [if_f hn]
        obtain ⟨o, o1, o2⟩ := ih (m - 1) (by omega) (i + 1) f (acc ++ [s[i]]) (by omega) (by omega) (by omega) (by simp; omega)
        refine ⟨o, o1, fun t ht => ?_⟩
        obtain ⟨d, r, rfl, d1, d2, d3⟩ := dec t ht
        rw [o2 r (d3 (by rw [← d1]; exact h)), d1]; simp
    · rw [if_f (by omega)]
      refine ⟨acc, rfl, fun t ht => ?_⟩
      cases t with
      | nil => simp
      | cons d r =>
        have := congrArg List.length ht
        unfold dbl at this
        split at this <;> simp at this <;> omega

end Go.Proofs.YtmpglmalfkkokaaGreatDoor.E
