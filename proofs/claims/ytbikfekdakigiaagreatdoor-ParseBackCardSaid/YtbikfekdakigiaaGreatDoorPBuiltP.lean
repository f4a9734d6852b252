/-
  Plain laws of the pure functions.
  Conditions: those that each statement prints, and no other.
-/
import Derived.Test.YtbikfekdakigiaaGreatDoorPBackWP
set_option linter.unusedVariables false
set_option linter.unusedSimpArgs false
/-! What is built of a list of trees. -/
namespace Go.Proofs.YtbikfekdakigiaaGreatDoor.E
open Go.Ev
set_option maxRecDepth 100000

abbrev TrT := Int × (Int × ((List UInt8) × (Bool × Unit)))
def TrOk (t : TrT) : Prop := I64 t.1 ∧ I64 t.2.1 ∧ t.2.2.1.length ≤ 20
def TrsOk (l : List TrT) : Prop := ∀ t ∈ l, TrOk t

def qb (x : Ex) (rest : List TrT) : Int × Int × Int × List UInt8 × List UInt8 × List UInt8 × Int × List Ex × Int × Int × List TrT × Unit :=
  (x.op, x.vk, x.vn, x.vs, x.tab, x.name, x.num, x.kids, x.kind, x.at_, rest, ())

def BSpec (g : List TrT → Int → Option (Int × Int × Int × List UInt8 × List UInt8 × List UInt8 × Int × List Ex × Int × Int × List TrT × Unit)) (k : Nat) : Prop :=
  ∀ l, TrsOk l → ∃ x w rest, g l (k : Int) = some (qb x rest) ∧ Bu k x w ∧ TrsOk rest

section
variable {N : Nat} [Z : Z_law17_built]

theorem bj3_0 (hN : 3 ≤ N) {R : Type} {k0 : _} {l : List TrT} {d : Int} {a1 a2 a3 a4 a5 a6 a7 a8 a9 b1 b2 b3 b4 op vk vn vs tab name num kind at_ : _} :
    law17_built_o_j3 N R k0 l d 0 a1 a2 a3 a4 a5 a6 a7 a8 a9 b1 b2 b3 b4 op vk vn vs tab name num kind at_ = k0 l op vk vn vs tab name num [] kind at_ b1 b2 b3 b4 op vk vn vs tab name num [] kind at_ := by
  obtain ⟨f, rfl⟩ : ∃ f, N = f + 1 := ⟨N - 1, by omega⟩
  unfold law17_built_o_j3
  show law17_built_o_l4B (f + 1) R (law17_built_o_l4 (f + 1) R _ f) _ _ _ _ _ _ _ _ _ _ _ _ _ _ _ _ _ _ _ _ _ _ _ _ _ _ _ _ = _
  unfold law17_built_o_l4B
  rw [if_f (by decide)]

theorem bj3_1 (hN : 3 ≤ N) {k : Nat} (hk : k ≤ 100) (hZ : BSpec Z.r_law17_built k) {R : Type} {k0 : _} {l : List TrT} (hl : TrsOk l) {a1 a2 a3 a4 a5 a6 a7 a8 a9 b1 b2 b3 b4 op vk vn vs tab name num kind at_ : _} : ∃ x w rest, Bu k x w ∧ TrsOk rest ∧
    law17_built_o_j3 N R k0 l ((k + 1 : Nat) : Int) 1 a1 a2 a3 a4 a5 a6 a7 a8 a9 b1 b2 b3 b4 op vk vn vs tab name num kind at_ = k0 rest op vk vn vs tab name num [x] kind at_ b1 b2 b3 b4 op vk vn vs tab name num [x] kind at_ := by
  obtain ⟨x, w, rest, e, hb, ho⟩ := hZ l hl
  refine ⟨x, w, rest, hb, ho, ?_⟩
  obtain ⟨f, rfl⟩ : ∃ f, N = f + 1 + 1 := ⟨N - 2, by omega⟩
  unfold law17_built_o_j3
  show law17_built_o_l4B (f + 1 + 1) R (law17_built_o_l4 (f + 1 + 1) R _ (f + 1)) _ _ _ _ _ _ _ _ _ _ _ _ _ _ _ _ _ _ _ _ _ _ _ _ _ _ _ _ = _
  unfold law17_built_o_l4B
  have hw : IntKind.wrap .i64 (((k + 1 : Nat) : Int) - 1) = (k : Int) := by rw [wrap_i64_id (by omega) (by omega)]; omega
  rw [if_t (by decide), hw, e, bind_some']
  dsimp only [qb]
  rw [mk_eta, cond_t (room_of (by simp))]
  show law17_built_o_l4B (f + 1 + 1) R (law17_built_o_l4 (f + 1 + 1) R _ f) _ _ _ _ _ _ _ _ _ _ _ _ _ _ _ _ _ _ _ _ _ _ _ _ _ _ _ _ = _
  unfold law17_built_o_l4B
  rw [if_f (by decide)]
  rfl

theorem bj3_2 (hN : 3 ≤ N) {k : Nat} (hk : k ≤ 100) (hZ : BSpec Z.r_law17_built k) {R : Type} {k0 : _} {l : List TrT} (hl : TrsOk l) {a1 a2 a3 a4 a5 a6 a7 a8 a9 b1 b2 b3 b4 op vk vn vs tab name num kind at_ : _} : ∃ x w y v rest, Bu k x w ∧ Bu k y v ∧ TrsOk rest ∧
    law17_built_o_j3 N R k0 l ((k + 1 : Nat) : Int) 2 a1 a2 a3 a4 a5 a6 a7 a8 a9 b1 b2 b3 b4 op vk vn vs tab name num kind at_ = k0 rest op vk vn vs tab name num [x, y] kind at_ b1 b2 b3 b4 op vk vn vs tab name num [x, y] kind at_ := by
  obtain ⟨x, w, rest1, e, hb, ho⟩ := hZ l hl
  obtain ⟨y, v, rest, e', hb', ho'⟩ := hZ rest1 ho
  refine ⟨x, w, y, v, rest, hb, hb', ho', ?_⟩
  obtain ⟨f, rfl⟩ : ∃ f, N = f + 1 + 1 + 1 := ⟨N - 3, by omega⟩
  unfold law17_built_o_j3
  show law17_built_o_l4B (f + 1 + 1 + 1) R (law17_built_o_l4 (f + 1 + 1 + 1) R _ (f + 1 + 1)) _ _ _ _ _ _ _ _ _ _ _ _ _ _ _ _ _ _ _ _ _ _ _ _ _ _ _ _ = _
  unfold law17_built_o_l4B
  have hw : IntKind.wrap .i64 (((k + 1 : Nat) : Int) - 1) = (k : Int) := by rw [wrap_i64_id (by omega) (by omega)]; omega
  rw [if_t (by decide), hw, e, bind_some']
  dsimp only [qb]
  rw [mk_eta, cond_t (room_of (by simp))]
  show law17_built_o_l4B (f + 1 + 1 + 1) R (law17_built_o_l4 (f + 1 + 1 + 1) R _ (f + 1)) _ _ _ _ _ _ _ _ _ _ _ _ _ _ _ _ _ _ _ _ _ _ _ _ _ _ _ _ = _
  unfold law17_built_o_l4B
  rw [if_t (by decide), hw, e', bind_some']
  dsimp only [qb]
  rw [mk_eta, cond_t (room_of (by simp))]
  show law17_built_o_l4B (f + 1 + 1 + 1) R (law17_built_o_l4 (f + 1 + 1 + 1) R _ f) _ _ _ _ _ _ _ _ _ _ _ _ _ _ _ _ _ _ _ _ _ _ _ _ _ _ _ _ = _
  unfold law17_built_o_l4B
  rw [if_f (by decide)]
  rfl

theorem bj2 (hN : 3 ≤ N) {k : Nat} (hk : k ≤ 100) (hZ : ∀ j, k = j + 1 → BSpec Z.r_law17_built j) {R : Type} {k0 : _} {l : List TrT} (hl : TrsOk l) {n op : Int} (hn : 0 ≤ n) (hn2 : n ≤ 9223372036854775807) (h1 : 1 ≤ op) (h21 : op ≤ 21) (h0 : k = 0 → op = 1) {b1 b2 b4 : _} {s : List UInt8} (hs : s.length ≤ 20) :
    ∃ x w rest, Bu k x w ∧ TrsOk rest ∧ law17_built_o_j2 N R k0 l (k : Int) n op 0 0 0 [] [] [] 0 0 0 b1 b2 s b4 = k0 rest x.op x.vk x.vn x.vs x.tab x.name x.num x.kids x.kind x.at_ b1 b2 s b4 := by
  unfold law17_built_o_j2
  by_cases o1 : op = 1
  · subst o1
    rw [if_t rfl]
    have h6 : n.tmod 6 = 0 ∨ n.tmod 6 = 1 ∨ n.tmod 6 = 2 ∨ n.tmod 6 = 3 ∨ n.tmod 6 = 4 ∨ n.tmod 6 = 5 := by
      rw [Int.tmod_eq_emod_of_nonneg hn]; omega
    rcases h6 with h | h | h | h | h | h <;> rw [h]
    · refine ⟨_, _, l, .lit (vk := 0) (vn := 0) (vs := []) (.inl ⟨rfl, rfl, rfl⟩), hl, ?_⟩
      show Option.bind (some ((0 : Int), ((0 : Int), (([] : List UInt8), ())))) _ = _
      rw [bind_some', bj3_0 hN]; rfl
    · refine ⟨_, _, l, .lit (vk := 1) (vn := 1) (vs := []) (.inr (.inl ⟨rfl, rfl, rfl⟩)), hl, ?_⟩
      show Option.bind (some ((1 : Int), ((1 : Int), (([] : List UInt8), ())))) _ = _
      rw [bind_some', bj3_0 hN]; rfl
    · refine ⟨_, _, l, .lit (vk := 2) (vn := n) (vs := []) (.inr (.inr (.inl ⟨.inl rfl, hn, hn2, rfl⟩))), hl, ?_⟩
      show Option.bind (some ((2 : Int), (n, (([] : List UInt8), ())))) _ = _
      rw [bind_some', bj3_0 hN]; rfl
    · refine ⟨_, _, l, .lit (vk := 3) (vn := n) (vs := []) (.inr (.inr (.inl ⟨.inr rfl, hn, hn2, rfl⟩))), hl, ?_⟩
      show Option.bind (some ((3 : Int), (n, (([] : List UInt8), ())))) _ = _
      rw [bind_some', bj3_0 hN]; rfl
    · refine ⟨_, _, l, .lit (vk := 4) (vn := 0) (vs := s) (.inr (.inr (.inr ⟨.inl rfl, rfl, hs⟩))), hl, ?_⟩
      show Option.bind (some ((4 : Int), ((0 : Int), (s, ())))) _ = _
      rw [bind_some', bj3_0 hN]; rfl
    · refine ⟨_, _, l, .lit (vk := 5) (vn := 0) (vs := s) (.inr (.inr (.inr ⟨.inr rfl, rfl, hs⟩))), hl, ?_⟩
      show Option.bind (some ((5 : Int), ((0 : Int), (s, ())))) _ = _
      rw [bind_some', bj3_0 hN]; rfl
  rw [if_f o1]
  obtain ⟨j, rfl⟩ : ∃ j, k = j + 1 := by
    cases k with
    | zero => exact absurd (h0 rfl) o1
    | succ j => exact ⟨j, rfl⟩
  have hZ := hZ j rfl
  by_cases o2 : op = 2
  · subst o2
    rw [if_t rfl]
    have h3 : ∃ nm, nm ∈ nms ∧ nth ([[97], [98, 95, 49], [99, 111, 108, 117]] : List (List UInt8)) (n.tmod 3) = some nm := by
      have : n.tmod 3 = 0 ∨ n.tmod 3 = 1 ∨ n.tmod 3 = 2 := by rw [Int.tmod_eq_emod_of_nonneg hn]; omega
      rcases this with h | h | h <;> rw [h]
      · exact ⟨_, .head _, rfl⟩
      · exact ⟨_, .tail _ (.head _), rfl⟩
      · exact ⟨_, .tail _ (.tail _ (.head _)), rfl⟩
    obtain ⟨nm, hm, e⟩ := h3
    rw [e, bind_some']
    cases b4
    · exact ⟨_, _, l, .col hm, hl, by rw [cf, bj3_0 hN]; rfl⟩
    · exact ⟨_, _, l, .qcol hm, hl, by rw [ct, bj3_0 hN]; rfl⟩
  rw [if_f o2]
  by_cases o7 : op = 7
  · subst o7
    rw [if_t rfl]
    obtain ⟨x, w, rest, hb, ho, e⟩ := bj3_1 hN (by omega : j ≤ 100) hZ hl
    exact ⟨_, _, rest, .un (p := (7, [45, 32])) (.head _) hb, ho, by rw [e]; rfl⟩
  rw [if_f o7]
  by_cases o16 : op = 16
  · subst o16
    rw [if_t rfl]
    obtain ⟨x, w, rest, hb, ho, e⟩ := bj3_1 hN (by omega : j ≤ 100) hZ hl
    exact ⟨_, _, rest, .un (p := (16, [110, 111, 116, 32])) (.tail _ (.head _)) hb, ho, by rw [e]; rfl⟩
  rw [if_f o16]
  by_cases o17 : op = 17
  · subst o17
    rw [if_t rfl]
    obtain ⟨x, w, rest, hb, ho, e⟩ := bj3_1 hN (by omega : j ≤ 100) hZ hl
    exact ⟨_, _, rest, .isn hb, ho, by rw [e]; rfl⟩
  rw [if_f o17]
  by_cases o19 : op = 19
  · subst o19
    rw [if_t rfl]
    obtain ⟨x, w, rest, hb, ho, e⟩ := bj3_1 hN (by omega : j ≤ 100) hZ hl
    exact ⟨_, _, rest, .un (p := (19, [115, 117, 109])) (.tail _ (.tail _ (.tail _ (.head _)))) hb, ho, by rw [e]; rfl⟩
  rw [if_f o19]
  by_cases o20 : op = 20
  · subst o20
    rw [if_t rfl]
    obtain ⟨x, w, rest, hb, ho, e⟩ := bj3_1 hN (by omega : j ≤ 100) hZ hl
    exact ⟨_, _, rest, .un (p := (20, [109, 105, 110])) (.tail _ (.tail _ (.tail _ (.tail _ (.head _))))) hb, ho, by rw [e]; rfl⟩
  rw [if_f o20]
  by_cases o21 : op = 21
  · subst o21
    rw [if_t rfl]
    obtain ⟨x, w, rest, hb, ho, e⟩ := bj3_1 hN (by omega : j ≤ 100) hZ hl
    exact ⟨_, _, rest, .un (p := (21, [109, 97, 120])) (.tail _ (.tail _ (.tail _ (.tail _ (.tail _ (.head _)))))) hb, ho, by rw [e]; rfl⟩
  rw [if_f o21]
  by_cases o18 : op = 18
  · subst o18
    rw [if_t rfl]
    have : n.tmod 2 = 0 ∨ n.tmod 2 = 1 := by rw [Int.tmod_eq_emod_of_nonneg hn]; omega
    rcases this with h | h <;> rw [h]
    · exact ⟨_, _, l, .star, hl, by rw [bj3_0 hN]; rfl⟩
    · obtain ⟨x, w, rest, hb, ho, e⟩ := bj3_1 hN (by omega : j ≤ 100) hZ hl
      exact ⟨_, _, rest, .un (p := (18, [99, 111, 117, 110, 116])) (.tail _ (.tail _ (.head _))) hb, ho, by rw [e]; rfl⟩
  rw [if_f o18]
  obtain ⟨x, w, y, v, rest, hb, hb', ho, e⟩ := bj3_2 hN (by omega : j ≤ 100) hZ hl
  have hp : ∃ u, (op, u) ∈ sgOf := by
    have : op = 3 ∨ op = 4 ∨ op = 5 ∨ op = 6 ∨ op = 8 ∨ op = 9 ∨ op = 10 ∨ op = 11 ∨ op = 12 ∨ op = 13 ∨ op = 14 ∨ op = 15 := by omega
    rcases this with rfl | rfl | rfl | rfl | rfl | rfl | rfl | rfl | rfl | rfl | rfl | rfl <;> simp [sgOf]
  obtain ⟨u, hp⟩ := hp
  exact ⟨_, _, rest, .two hp hb hb', ho, by rw [e]; rfl⟩

theorem bj1 (hN : 3 ≤ N) {k : Nat} (hk : k ≤ 100) (hZ : ∀ j, k = j + 1 → BSpec Z.r_law17_built j) {R : Type} {k0 : _} {l : List TrT} (hl : TrsOk l) {n m : Int} (hn : 0 ≤ n) (hn2 : n ≤ 9223372036854775807) (hm : 0 ≤ m) {b1 b2 b4 : _} {s : List UInt8} (hs : s.length ≤ 20) :
    ∃ x w rest, Bu k x w ∧ TrsOk rest ∧ law17_built_o_j1 N R k0 l (k : Int) n m 0 0 0 [] [] [] 0 0 0 b1 b2 s b4 = k0 rest x.op x.vk x.vn x.vs x.tab x.name x.num x.kids x.kind x.at_ b1 b2 s b4 := by
  unfold law17_built_o_j1
  by_cases h : k = 0
  · rw [if_t (by omega)]
    exact bj2 hN hk hZ hl hn hn2 (by decide) (by decide) (fun _ => rfl) hs
  · rw [if_f (by omega)]
    have hw : IntKind.wrap .i64 (1 + m.tmod 21) = 1 + m % 21 := by rw [Int.tmod_eq_emod_of_nonneg hm, wrap_i64_id (by omega) (by omega)]
    rw [hw]
    exact bj2 hN hk hZ hl hn hn2 (by omega) (by omega) (fun e => absurd e h) hs

omit Z in
theorem flip_ok {n : Int} (h : I64 n) (h0 : n < 0) : IntKind.wrap .i64 (0 - IntKind.wrap .i64 (n + 1)) = -n - 1 := by
  obtain ⟨h1, h2⟩ := h
  rw [wrap_i64_id (x := n + 1) (by omega) (by omega), wrap_i64_id (by omega) (by omega)]; omega

theorem bj0 (hN : 3 ≤ N) {k : Nat} (hk : k ≤ 100) (hZ : ∀ j, k = j + 1 → BSpec Z.r_law17_built j) {R : Type} {k0 : _} {l : List TrT} (hl : TrsOk l) {n m : Int} (hn : 0 ≤ n) (hn2 : n ≤ 9223372036854775807) (hm : I64 m) {b2 b4 : _} {s : List UInt8} (hs : s.length ≤ 20) :
    ∃ x w rest, Bu k x w ∧ TrsOk rest ∧ law17_built_o_j0 N R k0 l (k : Int) n 0 0 0 [] [] [] 0 0 0 m b2 s b4 = k0 rest x.op x.vk x.vn x.vs x.tab x.name x.num x.kids x.kind x.at_ m b2 s b4 := by
  unfold law17_built_o_j0
  by_cases h : m < 0
  · rw [if_t h, flip_ok hm h]
    exact bj1 hN hk hZ hl hn hn2 (by omega) hs
  · rw [if_f h]
    exact bj1 hN hk hZ hl hn hn2 (by omega) hs

theorem built_o (hN : 3 ≤ N) {k : Nat} (hk : k ≤ 100) (hZ : ∀ j, k = j + 1 → BSpec Z.r_law17_built j) : BSpec (law17_built_o N) k := by
  intro l hl
  unfold law17_built_o law17_built_o_cps
  cases l with
  | nil => exact ⟨_, _, [], by rw [if_t (show (([] : List TrT).length : Int) = 0 from rfl)]; exact (rfl : _ = some (qb (Ex.mk 1 0 0 [] [] [] 0 [] 0 0) [])), .lit (vk := 0) (vn := 0) (vs := []) (.inl ⟨rfl, rfl, rfl⟩), hl⟩
  | cons t r =>
    obtain ⟨h1, h2, h3⟩ := hl t (List.mem_cons_self ..)
    have hr : TrsOk r := fun u hu => hl u (List.mem_cons_of_mem _ hu)
    rw [if_f (by simp only [List.length_cons]; omega), show nth (t :: r) 0 = some t from rfl, bind_some', if_t (by simp only [List.length_cons]; omega)]
    have e : List.drop 1 (List.take (t :: r).length (t :: r)) = r := by rw [List.take_length]; rfl
    rw [e]
    obtain ⟨a1, a2⟩ := h2
    by_cases h : t.2.1 < 0
    · rw [if_t h, flip_ok ⟨a1, a2⟩ h]
      obtain ⟨x, w, rest, hb, ho, e⟩ := bj0 hN hk hZ hr (n := -t.2.1 - 1) (by omega) (by omega) h1 h3
      exact ⟨x, w, rest, e, hb, ho⟩
    · rw [if_f h]
      obtain ⟨x, w, rest, hb, ho, e⟩ := bj0 hN hk hZ hr (n := t.2.1) (by omega) (by omega) h1 h3
      exact ⟨x, w, rest, e, hb, ho⟩
end

theorem built_at {N : Nat} (hN : 3 ≤ N) : ∀ (n k : Nat), k < n → k ≤ 100 → BSpec (Z_law17_built_at N n).r_law17_built k
  | 0, _, h, _ => absurd h (Nat.not_lt_zero _)
  | n + 1, k, h, hk => by
    have := @built_o N (Z_law17_built_at N n) hN k hk (fun j e => built_at hN n j (by omega) (by omega))
    exact this

theorem built_eq {N : Nat} (hN : 1000 ≤ N) {k : Nat} (hk : k ≤ 100) : BSpec (law17_built N) k :=
  @built_o N (Z_law17_built_at N N) (by omega) k hk (fun j e => built_at (by omega) N j (by omega) (by omega))

end Go.Proofs.YtbikfekdakigiaaGreatDoor.E
