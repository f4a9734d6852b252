/-
  Plain laws of the pure functions.
  Conditions: those that each statement prints, and no other.
-/
import Derived.Test.YtbikfekdakigiaaGreatDoorPLLexQP
set_option linter.unusedVariables false
set_option linter.unusedSimpArgs false
namespace Go.Proofs.YtbikfekdakigiaaGreatDoor.E.L
open Go.Ev
abbrev Tk := Int × (Bs × (Int × (Int × Bs)))
def hexTab : Bs := [48, 49, 50, 51, 52, 53, 54, 55, 56, 57, 97, 98, 99, 100, 101, 102]
def hexV (c : UInt8) : Int := if 65 ≤ c.toNat ∧ c.toNat ≤ 70 then Lib.indexByte hexTab (c + 32) else Lib.indexByte hexTab c
def hexB (a b : UInt8) : UInt8 := UInt8.ofNat (Int.toNat (IntKind.wrap .u8 (Ev.bits .or .i64 (Ev.shl .i64 (hexV a) 4) (hexV b))))
def hexP : Bs → Option Bs
 | [] => some []
 | a :: b :: r => if hexV a < 0 ∨ hexV b < 0 then none else (hexP r).map fun l => hexB a b :: l
 | [_] => none
def rawP (s : Bs) : Option Tk := match qd (s.drop 2) with
 | none => none
 | some (o, n) => if o.length % 2 = 1 ∨ 400 < o.length then none else (hexP o).map fun v => (4, (s.take (n + 2), (5, (0, v))))
def textP (s : Bs) : Option Tk := match qd (s.drop 1) with
 | none => none
 | some (o, n) => if 200 < o.length then none else some (3, (s.take (n + 1), (4, (0, o))))
def barred (s : Bs) : Bool := decide ([46] <+: s) || decide (0 < spn isPartB s)
def numEnd (s : Bs) (n : Nat) (t rest : Bs) (k : Int) : Option Tk :=
 if barred rest = true then none else if (parseE t).isNil = true then some (2, (s.take n, (k, (parseV t, [])))) else none
def numP (s : Bs) : Option Tk :=
 let n := spn isFigB s
 let rest := s.drop n
 if [46] <+: rest then
  let k := spn isFigB (rest.drop 1)
  if k = 0 ∨ 4 < k then none else numEnd s (n + 1 + k) (s.take n ++ ((rest.drop 1).take k ++ List.replicate (4 - k) 48)) (rest.drop (1 + k)) 3
 else numEnd s n (s.take n) rest 2
def signs : Bs := [40, 41, 44, 42, 43, 45, 47, 61, 60, 62, 46, 59]
def signP (s : Bs) : Option Tk :=
 if [60, 61] <+: s then some (5, ([60, 61], (0, (0, []))))
 else if [62, 61] <+: s then some (5, ([62, 61], (0, (0, []))))
 else if [60, 62] <+: s then some (5, ([60, 62], (0, (0, []))))
 else match s with
  | [] => none
  | c :: _ => if 0 ≤ Lib.indexByte signs c then some (5, ([c], (0, (0, [])))) else none
def nextP (s : Bs) : Option Tk := match s with
 | [] => none
 | c :: r =>
  if ofB c = 2 then (if [39] <+: r ∧ (c = 120 ∨ c = 88) then rawP (c :: r) else some (1, (Lib.toLowerA ((c :: r).take (spn isPartB (c :: r))), (0, (0, [])))))
  else if ofB c = 3 then numP (c :: r)
  else if c = 39 then textP (c :: r)
  else signP (c :: r)
def outT : Option Tk → Int × Bs × Int × Int × Bs × Int × Unit
 | some (k, (t, (a, (b, c)))) => (k, (t, (a, (b, (c, (0, ()))))))
 | none => (0, ([], (0, (0, ([], (0, ()))))))
theorem toNat_to (n : Nat) (h : n < 256) : (Int.toNat (n : Int)).toUInt8 = UInt8.ofNat n := rfl
theorem hex_eq (N : Nat) (c : UInt8) : lex_hex N (c.toNat : Int) = some (hexV c, ()) := by
 have hc := c.toNat_lt
 unfold lex_hex lex_hex_cps strings_IndexByte strings_IndexByte_cps stringslite_IndexByte stringslite_IndexByte_cps by_IndexByteString by_IndexByteString_cps hexV
 simp only [Option.bind_some]
 have e0 : (Int.toNat (c.toNat : Int)).toUInt8 = c := by simp
 by_cases h1 : 65 ≤ c.toNat
 · rw [if_t (by omega)]
   by_cases h2 : c.toNat ≤ 70
   · rw [if_t (by omega), if_pos ⟨h1, h2⟩]
     have e : IntKind.wrap .u8 ((c.toNat : Int) + 32) = ((c.toNat + 32 : Nat) : Int) := by rw [wrap_u8_id (by omega) (by omega)]; rfl
     have e2 : (Int.toNat ((c.toNat + 32 : Nat) : Int)).toUInt8 = c + 32 := by
      apply UInt8.toNat_inj.1
      rw [Int.toNat_natCast]
      show (UInt8.ofNat (c.toNat + 32)).toNat = _
      rw [UInt8.toNat_add]
      simp
     rw [e, e2]; rfl
   · rw [if_f (by omega), if_neg (by omega), e0]; rfl
 · rw [if_f (by omega), if_neg (by omega), e0]; rfl
theorem raw_loop {N : Nat} {R : Type} {k0 k1 : Bs → Int → Bs → Int → Bs → Int → Int → Bs → Int → Option R} {s : Bs} {n a : Int} {b : Bs} {c d : Int} {e : Bs} {f : Int} {r : Option R}
 (hk : ∀ acc, k1 s n acc 0 [] 0 0 [] 0 = r) : ∀ (m : Nat) (t acc : Bs) (fuel : Nat), t.length = 2 * m → m < fuel → acc.length + m ≤ 1000000 →
 lex_raw_l1 N R k0 k1 fuel s t n acc a b c d e f = match hexP t with
  | some v => k0 s n (acc ++ v) a b c d e f
  | none => r := by
 intro m
 induction m with
 | zero =>
  intro t acc fuel h1 h2 h3
  obtain ⟨g, rfl⟩ : ∃ g, fuel = g + 1 := ⟨fuel - 1, by omega⟩
  obtain rfl : t = [] := List.eq_nil_of_length_eq_zero (by omega)
  show lex_raw_l1B N R _ k0 k1 s [] n acc a b c d e f = _
  unfold lex_raw_l1B hexP
  simp
 | succ m ih =>
  intro t acc fuel h1 h2 h3
  obtain ⟨g, rfl⟩ : ∃ g, fuel = g + 1 := ⟨fuel - 1, by omega⟩
  match t, h1 with
  | x :: y :: q, h1 =>
   simp only [List.length_cons] at h1
   show lex_raw_l1B N R (lex_raw_l1 N R k0 k1 g) k0 k1 s (x :: y :: q) n acc a b c d e f = _
   unfold lex_raw_l1B
   have n0 : nth (x :: y :: q) 0 = some x := rfl
   have n1 : nth (x :: y :: q) 1 = some y := rfl
   rw [cond_t (by simp), n0, bind_some', hex_eq, bind_some', n1, bind_some', hex_eq, bind_some', hk]
   conv => rhs; unfold hexP
   dsimp only
   by_cases hx : hexV x < 0
   · rw [if_t hx, if_pos (.inl hx)]
   · rw [if_f hx]
     by_cases hy : hexV y < 0
     · rw [if_t hy, if_pos (.inr hy)]
     · have e2 : List.drop 2 (List.take (x :: y :: q).length (x :: y :: q)) = q := by simp
       rw [if_f hy, if_neg (by omega), cond_t (room_one (by simp; omega)), if_t (by simp; omega), e2, ih q _ g (by omega) (by omega) (by simp; omega)]
       cases hexP q with
       | none => rfl
       | some v => simp [hexB]
theorem raw_eq {N : Nat} (hN : 1000000 < N) {s : Bs} (h2 : 2 ≤ s.length) (hs : s.length ≤ 1000000) : lex_raw N s = some (outT (rawP s)) := by
 unfold lex_raw lex_raw_cps rawP
 have e1 : List.drop 1 (List.take s.length s) = s.drop 1 := by rw [List.take_length]
 rw [if_t (by omega), e1, quoted_eq hN (by simp; omega) (by simp; omega), bind_some', List.drop_drop]
 cases hq : qd (s.drop (1 + 1)) with
 | none => rfl
 | some p =>
  obtain ⟨o, n⟩ := p
  obtain ⟨q1, q2⟩ := qd_le _ _ _ hq
  simp only [List.length_drop] at q1
  dsimp only
  rw [if_f (by omega)]
  have hm : ((o.length : Int).tmod 2 = 1) ↔ o.length % 2 = 1 := by
   rw [Int.tmod_eq_emod_of_nonneg (by omega)]; omega
  by_cases ho : o.length % 2 = 1
  · rw [if_t (hm.2 ho), if_pos (.inl ho)]; rfl
  · rw [if_f (fun h => ho (hm.1 h))]
    by_cases h4 : 400 < o.length
    · rw [if_t (by omega), if_pos (.inr h4)]; rfl
    · rw [if_f (by omega), if_neg (by omega)]
      unfold lex_raw_j0
      refine (raw_loop (r := some (outT none)) (fun acc => rfl) (o.length / 2) o [] N (by omega) (by omega) (by simp; omega)).trans ?_
      cases hexP o with
      | none => rfl
      | some v =>
       dsimp only
       have hw : IntKind.wrap .i64 (((1 + n : Nat) : Int) + 1) = ((n + 2 : Nat) : Int) := by rw [wrap_i64_id (by omega) (by omega)]; omega
       rw [hw, if_t (by omega), Int.toNat_natCast]
       rfl
theorem text_eq' {N : Nat} (hN : 1000000 < N) {s : Bs} (h1 : 1 ≤ s.length) (hs : s.length ≤ 1000000) : lex_text N s = some (outT (textP s)) := by
 unfold lex_text lex_text_cps textP
 rw [quoted_eq hN h1 hs, bind_some']
 cases hq : qd (s.drop 1) with
 | none => rfl
 | some p =>
  obtain ⟨o, n⟩ := p
  obtain ⟨q1, q2⟩ := qd_le _ _ _ hq
  simp only [List.length_drop] at q1
  dsimp only
  rw [if_f (by omega)]
  by_cases h2 : 200 < o.length
  · rw [if_t (by omega), if_pos h2]; rfl
  · rw [if_f (by omega), if_neg h2, if_t (by omega), Int.toNat_natCast, Nat.add_comm 1 n]
    rfl
theorem hasPrefix_eq (N : Nat) {s p : Bs} : strings_HasPrefix N s p = some (decide (p <+: s), ()) := by
 unfold strings_HasPrefix strings_HasPrefix_cps stringslite_HasPrefix stringslite_HasPrefix_cps
 by_cases h : p.length ≤ s.length
 · rw [if_t (by omega), if_t (by omega)]
   have : (List.take p.length s = p) ↔ (p <+: s) := ⟨fun e => by rw [← e]; exact List.take_prefix _ _, fun e => (List.prefix_iff_eq_take.1 e).symm⟩
   simp [this]
 · rw [if_f (by omega)]
   have : ¬ p <+: s := fun e => h e.length_le
   simp [this]
theorem parse_eq (N : Nat) {s : Bs} (hl : s.length ≤ 1000000) : strconv_ParseInt N s 10 64 = some (parseV s, (parseE s, ())) := by
 unfold strconv_ParseInt strconv_ParseInt_cps
 rw [if_t ⟨rfl, rfl, by omega⟩]
theorem rep_zeros (k : Nat) : Lib.repeatL [48] k = List.replicate k 48 := by
 have := Lib.repeatL_replicate 48 1 k
 simpa using this
theorem num_end {N : Nat} (hN : 1000000 < N) {R : Type} {k0 : Int → Bs → Int → Int → Bs → Int → Option R} {s t rest : Bs} {n : Nat} {k a : Int} {b : Bs} {c d : Int} {e : Bs} {f : Int} (hn : n ≤ s.length) (ht : t.length ≤ 1000000) (hr : rest.length ≤ 1000000) :
 lex_number_j1 N R k0 s (n : Int) t rest k a b c d e f = k0 (outT (numEnd s n t rest k)).1 (outT (numEnd s n t rest k)).2.1 (outT (numEnd s n t rest k)).2.2.1 (outT (numEnd s n t rest k)).2.2.2.1 (outT (numEnd s n t rest k)).2.2.2.2.1 0 := by
 unfold lex_number_j1 numEnd barred
 rw [hasPrefix_eq, bind_some', span_eq hN hr, bind_some']
 dsimp only
 by_cases h1 : ([46] : Bs) <+: rest
 · rw [if_t h1, if_pos (by simp [h1])]; rfl
 · rw [if_f h1]
   by_cases h2 : 0 < spn isPartB rest
   · rw [if_t (by omega), if_pos (by simp [h2])]; rfl
   · rw [if_f (by omega), if_neg (by simp [h1, h2])]
     unfold lex_number_j2
     rw [parse_eq N ht, bind_some']
     dsimp only
     cases hp : (parseE t).isNil with
     | false => rfl
     | true =>
      rw [cond_f (show (!true) = false from rfl), if_t (by omega), if_pos rfl, Int.toNat_natCast]
      rfl
theorem num_eq {N : Nat} (hN : 1000000 < N) {s : Bs} (hs : s.length ≤ 1000) : lex_number N s = some (outT (numP s)) := by
 have hsl := spn_le isFigB s
 have fin : ∀ z : Option Tk, some ((outT z).1, ((outT z).2.1, ((outT z).2.2.1, ((outT z).2.2.2.1, ((outT z).2.2.2.2.1, (0, ())))))) = some (outT z) := by
  intro z; cases z <;> rfl
 unfold lex_number lex_number_cps numP
 rw [span1_eq hN (by omega), bind_some']
 dsimp only
 rw [if_t (by omega), if_t (by omega)]
 simp only [Int.toNat_natCast, List.take_length, List.drop_zero]
 rw [hasPrefix_eq, bind_some']
 dsimp only
 by_cases hd : ([46] : Bs) <+: s.drop (spn isFigB s)
 · have hl1 := hd.length_le
   simp only [List.length_cons, List.length_nil, List.length_drop] at hl1
   have hk := spn_le isFigB ((s.drop (spn isFigB s)).drop 1)
   simp only [List.length_drop] at hk
   rw [if_t hd, if_pos hd, if_t (by simp; omega), span1_eq hN (by simp; omega), bind_some']
   dsimp only
   generalize hkk : spn isFigB ((s.drop (spn isFigB s)).drop 1) = k at *
   generalize hnn : spn isFigB s = n at *
   by_cases h0 : k = 0
   · rw [if_t (by omega), if_pos (.inl h0)]; rfl
   · rw [if_f (by omega)]
     by_cases h4 : 4 < k
     · rw [if_t (by omega), if_pos (.inr h4)]; rfl
     · rw [if_f (by omega), if_neg (by omega)]
       unfold lex_number_j0
       have w1 : IntKind.wrap .i64 (1 + (k : Int)) = ((1 + k : Nat) : Int) := by rw [wrap_i64_id (by omega) (by omega)]; omega
       have w2 : IntKind.wrap .i64 (4 - (k : Int)) = ((4 - k : Nat) : Int) := by rw [wrap_i64_id (by omega) (by omega)]; omega
       have w3 : IntKind.wrap .i64 (IntKind.wrap .i64 ((n : Int) + 1) + (k : Int)) = ((n + 1 + k : Nat) : Int) := by
        rw [wrap_i64_id (x := (n : Int) + 1) (by omega) (by omega), wrap_i64_id (by omega) (by omega)]; omega
       rw [w1, w2, w3]
       simp only [Int.toNat_natCast, List.take_length]
       unfold strings_Repeat strings_Repeat_cps
       rw [if_t (by simp; omega), if_t (by simp; omega), if_t ⟨by omega, by simp; omega⟩, bind_some', Int.toNat_natCast, rep_zeros, cond_t (room_one (by simp; omega)), cond_t (room_one (by simp; omega)), if_t (by simp; omega)]
       have e : List.drop 1 (List.take (1 + k) (s.drop n)) = ((s.drop n).drop 1).take k := by
        rw [List.drop_take]; congr 1; omega
       rw [e, num_end hN (by omega) (by simp; omega) (by simp; omega)]
       exact fin _
 · rw [if_f hd, if_neg hd, num_end hN (by omega) (by simp; omega) (by simp; omega)]
   exact fin _
theorem sign_eq {N : Nat} (hN : 1000000 < N) {s : Bs} (h1 : 1 ≤ s.length) : lex_sign N s = some (outT (signP s)) := by
 obtain ⟨f, hf⟩ : ∃ f, N = f + 4 := ⟨N - 4, by omega⟩
 have loop : ∀ {R : Type} {k0 k1 : Bs → Int → Bs → Int → Int → Bs → Int → Option R}, lex_sign_l0 N R k0 k1 (f + 4) s [[60, 61], [62, 61], [60, 62]] 3 0 0 [] 0 0 [] 0 =
  if ([60, 61] : Bs) <+: s then k1 s 5 [60, 61] 0 0 [] 0 else if ([62, 61] : Bs) <+: s then k1 s 5 [62, 61] 0 0 [] 0 else if ([60, 62] : Bs) <+: s then k1 s 5 [60, 62] 0 0 [] 0 else k0 s 0 [] 0 0 [] 0 := by
  intro R k0 k1
  have s0 : lex_sign_l0 N R k0 k1 (f + 4) s [[60, 61], [62, 61], [60, 62]] 3 0 0 [] 0 0 [] 0 = Option.bind (strings_HasPrefix N s [60, 61]) fun v => bif v.1 then k1 s 5 [60, 61] 0 0 [] 0 else lex_sign_l0 N R k0 k1 (f + 3) s [[60, 61], [62, 61], [60, 62]] 3 1 0 [] 0 0 [] 0 := rfl
  have s1 : lex_sign_l0 N R k0 k1 (f + 3) s [[60, 61], [62, 61], [60, 62]] 3 1 0 [] 0 0 [] 0 = Option.bind (strings_HasPrefix N s [62, 61]) fun v => bif v.1 then k1 s 5 [62, 61] 0 0 [] 0 else lex_sign_l0 N R k0 k1 (f + 2) s [[60, 61], [62, 61], [60, 62]] 3 2 0 [] 0 0 [] 0 := rfl
  have s2 : lex_sign_l0 N R k0 k1 (f + 2) s [[60, 61], [62, 61], [60, 62]] 3 2 0 [] 0 0 [] 0 = Option.bind (strings_HasPrefix N s [60, 62]) fun v => bif v.1 then k1 s 5 [60, 62] 0 0 [] 0 else lex_sign_l0 N R k0 k1 (f + 1) s [[60, 61], [62, 61], [60, 62]] 3 3 0 [] 0 0 [] 0 := rfl
  have s3 : lex_sign_l0 N R k0 k1 (f + 1) s [[60, 61], [62, 61], [60, 62]] 3 3 0 [] 0 0 [] 0 = k0 s 0 [] 0 0 [] 0 := rfl
  rw [s0, hasPrefix_eq, bind_some', s1, hasPrefix_eq, bind_some', s2, hasPrefix_eq, bind_some', s3]
  by_cases h1 : ([60, 61] : Bs) <+: s
  · simp [h1]
  · by_cases h2 : ([62, 61] : Bs) <+: s
    · simp [h1, h2]
    · by_cases h3 : ([60, 62] : Bs) <+: s <;> simp [h1, h2, h3]
 unfold lex_sign lex_sign_cps signP
 refine (congrArg (fun m => lex_sign_l0 N _ _ _ m _ _ _ _ _ _ _ _ _ _) hf).trans (loop.trans ?_)
 split
 · rfl
 · split
   · rfl
   · split
     · rfl
     · cases s with
       | nil => simp at h1
       | cons c r =>
        have n0 : nth (c :: r) 0 = some c := rfl
        rw [n0, bind_some']
        have e : strings_IndexByte N [40, 41, 44, 42, 43, 45, 47, 61, 60, 62, 46, 59] (c.toNat : Int) = some (Lib.indexByte signs c, ()) := by
         unfold strings_IndexByte strings_IndexByte_cps stringslite_IndexByte stringslite_IndexByte_cps by_IndexByteString by_IndexByteString_cps
         simp [signs]
        rw [e, bind_some']
        dsimp only
        by_cases hi : 0 ≤ Lib.indexByte signs c
        · rw [if_t hi, if_t (by simp; omega), if_pos hi]; rfl
        · rw [if_f hi, if_neg hi]; rfl
theorem tw_mem {p : UInt8 → Bool} {c : UInt8} : ∀ {s : Bs}, c ∈ s.takeWhile p → p c = true
 | [], h => by simp at h
 | x :: r, h => by
  rw [List.takeWhile_cons] at h
  split at h
  · rename_i hx
    rcases List.mem_cons.1 h with rfl | h
    · exact hx
    · exact tw_mem h
  · cases h
theorem part_ascii {c : UInt8} (h : isPartB c = true) : c.toNat < 128 := by
 unfold isPartB ofB at h
 have h := of_decide_eq_true h
 split at h
 · omega
 · split at h
   · omega
   · split at h
     · omega
     · split at h
       · omega
       · omega
theorem lower_eq (N : Nat) {s : Bs} (hs : s.length ≤ 1000000) : strings_ToLower N (s.take (spn isPartB s)) = some (Lib.toLowerA (s.take (spn isPartB s)), ()) := by
 unfold strings_ToLower strings_ToLower_cps
 rw [cond_t]
 rw [Bool.and_eq_true]
 refine ⟨decide_eq_true (by simp; omega), ?_⟩
 rw [List.all_eq_true]
 intro c hc
 rw [take_spn] at hc
 exact decide_eq_true (part_ascii (tw_mem hc))
theorem next_eq {N : Nat} (hN : 1000000 < N) {s : Bs} (h1 : 1 ≤ s.length) (hs : s.length ≤ 1000) : lex_next N s = some (outT (nextP s)) := by
 have fin : ∀ z : Option Tk, some ((outT z).1, ((outT z).2.1, ((outT z).2.2.1, ((outT z).2.2.2.1, ((outT z).2.2.2.2.1, ((outT z).2.2.2.2.2.1, ())))))) = some (outT z) := by
  intro z; cases z <;> rfl
 cases s with
 | nil => simp at h1
 | cons c r =>
  have n0 : nth (c :: r) 0 = some c := rfl
  have hsl := spn_le isPartB (c :: r)
  unfold lex_next lex_next_cps nextP
  rw [n0, bind_some', of_eq, bind_some', span_eq hN (by omega), bind_some', bind_some', bind_some', bind_some']
  dsimp only
  by_cases h2 : ofB c = 2
  · have word : (bif decide (0 ≤ ((spn isPartB (c :: r) : Nat) : Int) ∧ ((spn isPartB (c :: r) : Nat) : Int) ≤ (((c :: r).length : Nat) : Int)) then
     Option.bind (strings_ToLower N (List.drop 0 (List.take (Int.toNat ((spn isPartB (c :: r) : Nat) : Int)) (c :: r)))) fun v => some ((1 : Int), (v.1, ((0 : Int), ((0 : Int), (([] : Bs), ((0 : Int), ())))))) else none) =
     some (outT (some (1, (Lib.toLowerA ((c :: r).take (spn isPartB (c :: r))), (0, (0, [])))))) := by
     rw [if_t (by omega), Int.toNat_natCast, List.drop_zero, lower_eq N (by omega)]; rfl
    rw [if_t h2, if_pos h2]
    cases r with
    | nil =>
     rw [if_f (by simp), if_neg (by simp)]
     exact word
    | cons d q =>
     have n1 : nth (c :: d :: q) 1 = some d := rfl
     have hp : ([39] : Bs) <+: d :: q ↔ d = 39 := by simp [List.cons_prefix_cons, eq_comm]
     rw [if_t (by simp; omega), n1, bind_some']
     by_cases hd : d = 39
     · rw [if_t (c39.2 hd), raw_eq hN (by simp) (by omega)]
       by_cases hx : c = 120
       · rw [if_t (by subst hx; rfl), if_pos ⟨hp.2 hd, .inl hx⟩]
         exact fin _
       · rw [if_f (fun h => hx (by apply UInt8.toNat_inj.1; show c.toNat = 120; omega))]
         by_cases hx2 : c = 88
         · rw [if_t (by subst hx2; rfl), if_pos ⟨hp.2 hd, .inr hx2⟩]
           exact fin _
         · rw [if_f (fun h => hx2 (by apply UInt8.toNat_inj.1; show c.toNat = 88; omega)), if_neg (fun h => h.2.elim hx hx2)]
           exact word
     · rw [if_f (fun h => hd (c39.1 h)), if_neg (fun h => hd (hp.1 h.1))]
       exact word
  · rw [if_f h2, if_neg h2]
    by_cases h3 : ofB c = 3
    · rw [if_t h3, if_pos h3, num_eq hN hs]; exact fin _
    · rw [if_f h3, if_neg h3]
      by_cases hq : c = 39
      · rw [if_t (c39.2 hq), if_pos hq, text_eq' hN h1 (by omega)]; exact fin _
      · rw [if_f (fun h => hq (c39.1 h)), if_neg hq, sign_eq hN h1]; exact fin _
end Go.Proofs.YtbikfekdakigiaaGreatDoor.E.L
