/-
  Plain laws of the pure functions.
  Conditions: those that each statement prints, and no other.
-/
import Derived.Test.YtbikfekdakigiaaGreatDoorPBuiltP
set_option linter.unusedVariables false
set_option linter.unusedSimpArgs false
/-! What is written of a tree. -/
namespace Go.Proofs.YtbikfekdakigiaaGreatDoor.E
open Go.Ev
set_option maxRecDepth 100000

theorem Bu.len {k : Nat} {e : Ex} {w : List UInt8} (h : Bu k e w) : w.length + 20 ≤ 520 * 2 ^ k := by
  have pow1 : ∀ k : Nat, 1 ≤ 2 ^ k := fun k => Nat.one_le_two_pow
  induction h with
  | @lit k vk vn vs h =>
    have := pow1 k
    have hl := txt_len (k := vk) (n := vn) (s := vs) (by unfold I64; rcases h with h | h | h | h <;> omega)
    omega
  | @col k nm h =>
    have := pow1 k
    simp only [nms, List.mem_cons, List.not_mem_nil, or_false] at h
    rcases h with rfl | rfl | rfl <;> simp <;> omega
  | @qcol k nm h =>
    have := pow1 k
    simp only [nms, List.mem_cons, List.not_mem_nil, or_false] at h
    rcases h with rfl | rfl | rfl <;> simp <;> omega
  | @star k => have := pow1 k; simp; omega
  | @un k x w p hp h ih =>
    have := pow1 k
    have hl : p.2.length ≤ 5 := by
      simp only [preOf, List.mem_cons, List.not_mem_nil, or_false] at hp
      rcases hp with rfl | rfl | rfl | rfl | rfl | rfl <;> decide
    simp only [inB, List.length_append, List.length_cons, List.length_nil, Nat.pow_succ]; omega
  | @isn k x w h ih =>
    have := pow1 k
    simp only [inB, sNull, List.length_append, List.length_cons, List.length_nil, Nat.pow_succ]; omega
  | @two k x y w v p hp h h' ih ih' =>
    have := pow1 k
    have hl : p.2.length ≤ 3 := by
      simp only [sgOf, List.mem_cons, List.not_mem_nil, or_false] at hp
      rcases hp with rfl | rfl | rfl | rfl | rfl | rfl | rfl | rfl | rfl | rfl | rfl | rfl <;> decide
    simp only [inB, List.length_append, List.length_cons, List.length_nil, Nat.pow_succ]; omega

theorem Bu.short {k : Nat} {e : Ex} {w : List UInt8} (h : Bu k e w) (hk : k ≤ 8) : w.length ≤ 140000 := by
  have := h.len
  have h2 : 2 ^ k ≤ 2 ^ 8 := Nat.pow_le_pow_right (by decide) hk
  omega

abbrev WFn := Int → Int → Int → List UInt8 → List UInt8 → List UInt8 → Int → List Ex → Int → Int → Option (List UInt8 × Unit)
def onX (g : WFn) (x : Ex) : Option (List UInt8 × Unit) := g x.op x.vk x.vn x.vs x.tab x.name x.num x.kids x.kind x.at_

section
variable {N : Nat} [Z : Z_law17_written]

theorem wl_0 (hN : 3 ≤ N) {R : Type} {k0 : _} {a1 a2 a3 a4 a5 a6 a7 a9 a10 : _} : law17_written_o_l0 N R k0 N [] 0 a1 a2 a3 a4 a5 a6 a7 [] a9 a10 = k0 [] a1 a2 a3 a4 a5 a6 a7 [] a9 a10 := by
  obtain ⟨f, rfl⟩ : ∃ f, N = f + 1 := ⟨N - 1, by omega⟩
  show law17_written_o_l0B (f + 1) R (law17_written_o_l0 (f + 1) R _ f) _ _ _ _ _ _ _ _ _ _ _ _ _ = _
  unfold law17_written_o_l0B
  rw [if_f (by decide)]

theorem wl_1 (hN : 3 ≤ N) {x : Ex} {w : List UInt8} (hx : onX Z.r_law17_written x = some (w, ())) (hw : w.length ≤ 140000) {R : Type} {k0 : _} {a1 a2 a3 a4 a5 a6 a7 a9 a10 : _} : law17_written_o_l0 N R k0 N [] 0 a1 a2 a3 a4 a5 a6 a7 [x] a9 a10 = k0 [inB w] a1 a2 a3 a4 a5 a6 a7 [x] a9 a10 := by
  obtain ⟨f, rfl⟩ : ∃ f, N = f + 1 + 1 := ⟨N - 2, by omega⟩
  show law17_written_o_l0B (f + 1 + 1) R (law17_written_o_l0 (f + 1 + 1) R _ (f + 1)) _ _ _ _ _ _ _ _ _ _ _ _ _ = _
  unfold law17_written_o_l0B
  have hx' : Z_law17_written.r_law17_written x.op x.vk x.vn x.vs x.tab x.name x.num x.kids x.kind x.at_ = some (w, ()) := hx
  rw [if_t (by simp), nth_zero, bind_some', hx', bind_some', cond_t (room_one (by simp; omega)), cond_t (room_one (by simp; omega)), cond_t (room_of (by simp))]
  show law17_written_o_l0B (f + 1 + 1) R (law17_written_o_l0 (f + 1 + 1) R _ f) _ _ _ _ _ _ _ _ _ _ _ _ _ = _
  unfold law17_written_o_l0B
  rw [if_f (by simp [wrap_i64_id])]
  rfl

theorem wl_2 (hN : 3 ≤ N) {x y : Ex} {w v : List UInt8} (hx : onX Z.r_law17_written x = some (w, ())) (hw : w.length ≤ 140000) (hy : onX Z.r_law17_written y = some (v, ())) (hv : v.length ≤ 140000) {R : Type} {k0 : _} {a1 a2 a3 a4 a5 a6 a7 a9 a10 : _} : law17_written_o_l0 N R k0 N [] 0 a1 a2 a3 a4 a5 a6 a7 [x, y] a9 a10 = k0 [inB w, inB v] a1 a2 a3 a4 a5 a6 a7 [x, y] a9 a10 := by
  obtain ⟨f, rfl⟩ : ∃ f, N = f + 1 + 1 + 1 := ⟨N - 3, by omega⟩
  show law17_written_o_l0B (f + 1 + 1 + 1) R (law17_written_o_l0 (f + 1 + 1 + 1) R _ (f + 1 + 1)) _ _ _ _ _ _ _ _ _ _ _ _ _ = _
  unfold law17_written_o_l0B
  have hx' : Z_law17_written.r_law17_written x.op x.vk x.vn x.vs x.tab x.name x.num x.kids x.kind x.at_ = some (w, ()) := hx
  have hy' : Z_law17_written.r_law17_written y.op y.vk y.vn y.vs y.tab y.name y.num y.kids y.kind y.at_ = some (v, ()) := hy
  rw [if_t (by simp), nth_zero, bind_some', hx', bind_some', cond_t (room_one (by simp; omega)), cond_t (room_one (by simp; omega)), cond_t (room_of (by simp))]
  show law17_written_o_l0B (f + 1 + 1 + 1) R (law17_written_o_l0 (f + 1 + 1 + 1) R _ (f + 1)) _ _ _ _ _ _ _ _ _ _ _ _ _ = _
  unfold law17_written_o_l0B
  have e1 : IntKind.wrap .i64 (0 + 1) = 1 := by decide
  rw [e1, if_t (by simp), nth_one, bind_some', hy', bind_some', cond_t (room_one (by simp; omega)), cond_t (room_one (by simp; omega)), cond_t (room_of (by simp))]
  show law17_written_o_l0B (f + 1 + 1 + 1) R (law17_written_o_l0 (f + 1 + 1 + 1) R _ f) _ _ _ _ _ _ _ _ _ _ _ _ _ = _
  unfold law17_written_o_l0B
  have e2 : IntKind.wrap .i64 (1 + 1) = 2 := by decide
  rw [e2, if_f (by simp)]
  rfl

omit Z in
theorem inB_len (w : List UInt8) : (inB w).length = w.length + 2 := by simp [inB]

theorem written_o (hN : 1000 < N) {k : Nat} (hk : k ≤ 8) (hZ : ∀ j, k = j + 1 → ∀ x w, Bu j x w → onX Z.r_law17_written x = some (w, ())) {e : Ex} {w : List UInt8} (h : Bu k e w) : onX (law17_written_o N) e = some (w, ()) := by
  have h3 : 3 ≤ N := by omega
  cases h with
  | @lit _ vk vn vs h =>
    show law17_written_o N 1 vk vn vs [] [] 0 [] 0 0 = _
    unfold law17_written_o law17_written_o_cps
    rw [wl_0 h3, if_t rfl, text_eq hN (by unfold I64; rcases h with h | h | h | h <;> omega)]
    rfl
  | @col _ _ h =>
    show law17_written_o N 2 0 0 [] [] _ 0 [] 0 0 = _
    unfold law17_written_o law17_written_o_cps
    rw [wl_0 h3, if_f (by decide), if_t rfl]
    rfl
  | @qcol _ nm h =>
    show law17_written_o N 2 0 0 [] [116] nm 0 [] 0 0 = _
    unfold law17_written_o law17_written_o_cps
    have hl : nm.length ≤ 4 := by
      simp only [nms, List.mem_cons, List.not_mem_nil, or_false] at h
      rcases h with rfl | rfl | rfl <;> decide
    rw [wl_0 h3, if_f (by decide), if_t rfl, cond_t (by decide), cond_t (room_one (by decide)), cond_t (room_one (by simp; omega))]
    rfl
  | star =>
    show law17_written_o N 18 0 0 [] [] [] 0 [] 0 0 = _
    unfold law17_written_o law17_written_o_cps
    rw [wl_0 h3, if_f (by decide), if_f (by decide), if_f (by decide), if_f (by decide), if_f (by decide), if_t rfl]
    rfl
  | @un j x w p hp h =>
    have hx := hZ j rfl x w h
    have hw := h.short (by omega)
    have hb := inB_len w
    simp only [preOf, List.mem_cons, List.not_mem_nil, or_false] at hp
    rcases hp with rfl | rfl | rfl | rfl | rfl | rfl
    · show law17_written_o N 7 0 0 [] [] [] 0 [x] 0 0 = _
      unfold law17_written_o law17_written_o_cps
      rw [wl_1 h3 hx hw, if_f (by decide), if_f (by decide), if_t rfl, nth_zero, bind_some', cond_t (room_one (by simp; omega))]
    · show law17_written_o N 16 0 0 [] [] [] 0 [x] 0 0 = _
      unfold law17_written_o law17_written_o_cps
      rw [wl_1 h3 hx hw, if_f (by decide), if_f (by decide), if_f (by decide), if_t rfl, nth_zero, bind_some', cond_t (room_one (by simp; omega))]
    · show law17_written_o N 18 0 0 [] [] [] 0 [x] 0 0 = _
      unfold law17_written_o law17_written_o_cps
      rw [wl_1 h3 hx hw, if_f (by decide), if_f (by decide), if_f (by decide), if_f (by decide), if_f (by decide), if_t rfl, if_f (by simp), nth_zero, bind_some', cond_t (room_one (by simp; omega))]
    · show law17_written_o N 19 0 0 [] [] [] 0 [x] 0 0 = _
      unfold law17_written_o law17_written_o_cps
      rw [wl_1 h3 hx hw, if_f (by decide), if_f (by decide), if_f (by decide), if_f (by decide), if_f (by decide), if_f (by decide), if_t rfl, show IntKind.wrap .i64 (19 - 19) = 0 by decide, nth_zero, bind_some', nth_zero, bind_some', cond_t (room_one (by simp; omega))]
    · show law17_written_o N 20 0 0 [] [] [] 0 [x] 0 0 = _
      unfold law17_written_o law17_written_o_cps
      rw [wl_1 h3 hx hw, if_f (by decide), if_f (by decide), if_f (by decide), if_f (by decide), if_f (by decide), if_f (by decide), if_f (by decide), if_t rfl, show IntKind.wrap .i64 (20 - 19) = 1 by decide, nth_one, bind_some', nth_zero, bind_some', cond_t (room_one (by simp; omega))]
    · show law17_written_o N 21 0 0 [] [] [] 0 [x] 0 0 = _
      unfold law17_written_o law17_written_o_cps
      rw [wl_1 h3 hx hw, if_f (by decide), if_f (by decide), if_f (by decide), if_f (by decide), if_f (by decide), if_f (by decide), if_f (by decide), if_f (by decide), if_t rfl, show IntKind.wrap .i64 (21 - 19) = 2 by decide, nth_two, bind_some', nth_zero, bind_some', cond_t (room_one (by simp; omega))]
  | @isn j x w h =>
    have hx := hZ j rfl x w h
    have hw := h.short (by omega)
    have hb := inB_len w
    show law17_written_o N 17 0 0 [] [] [] 0 [x] 0 0 = _
    unfold law17_written_o law17_written_o_cps
    rw [wl_1 h3 hx hw, if_f (by decide), if_f (by decide), if_f (by decide), if_f (by decide), if_t rfl, nth_zero, bind_some', cond_t (room_one (by simp; omega))]
    rfl
  | @two j x y w v p hp h h' =>
    have hx := hZ j rfl x w h
    have hw := h.short (by omega)
    have hy := hZ j rfl y v h'
    have hv := h'.short (by omega)
    have hb := inB_len w
    have hc := inB_len v
    show law17_written_o N p.1 0 0 [] [] [] 0 [x, y] 0 0 = _
    unfold law17_written_o law17_written_o_cps
    have hop : p.1 ≠ 1 ∧ p.1 ≠ 2 ∧ p.1 ≠ 7 ∧ p.1 ≠ 16 ∧ p.1 ≠ 17 ∧ p.1 ≠ 18 ∧ p.1 ≠ 19 ∧ p.1 ≠ 20 ∧ p.1 ≠ 21 ∧ nth ([[43], [45], [42], [47], [], [61], [60, 62], [60], [60, 61], [62], [62, 61], [97, 110, 100], [111, 114]] : (List (List UInt8))) (IntKind.wrap .i64 (p.1 - 3)) = some p.2 ∧ p.2.length ≤ 3 := by
      simp only [sgOf, List.mem_cons, List.not_mem_nil, or_false] at hp
      rcases hp with rfl | rfl | rfl | rfl | rfl | rfl | rfl | rfl | rfl | rfl | rfl | rfl <;> exact ⟨by decide, by decide, by decide, by decide, by decide, by decide, by decide, by decide, by decide, by kernel_rfl, by decide⟩
    obtain ⟨o1, o2, o7, o16, o17, o18, o19, o20, o21, hn, hl⟩ := hop
    rw [wl_2 h3 hx hw hy hv, if_f o1, if_f o2, if_f o7, if_f o16, if_f o17, if_f o18, if_f o19, if_f o20, if_f o21]
    unfold law17_written_o_j1
    rw [nth_zero, bind_some', cond_t (room_one (by simp; omega)), hn, bind_some', cond_t (room_one (by simp; omega)), cond_t (room_one (by simp; omega)), nth_one, bind_some', cond_t (room_one (by simp; omega))]
    simp
end

theorem written_at {N : Nat} (hN : 1000 < N) : ∀ (n k : Nat), k < n → k ≤ 8 → ∀ e w, Bu k e w → onX (Z_law17_written_at N n).r_law17_written e = some (w, ())
  | 0, _, h, _ => absurd h (Nat.not_lt_zero _)
  | n + 1, k, h, hk => fun e w hb => by
    have := @written_o N (Z_law17_written_at N n) hN k hk (fun j he => written_at hN n j (by omega) (by omega)) e w hb
    exact this

theorem written_eq {N : Nat} (hN : 1000 < N) {k : Nat} (hk : k ≤ 8) {e : Ex} {w : List UInt8} (hb : Bu k e w) : onX (law17_written N) e = some (w, ()) :=
  @written_o N (Z_law17_written_at N N) hN k hk (fun j he => written_at hN N j (by omega) (by omega)) e w hb

end Go.Proofs.YtbikfekdakigiaaGreatDoor.E
