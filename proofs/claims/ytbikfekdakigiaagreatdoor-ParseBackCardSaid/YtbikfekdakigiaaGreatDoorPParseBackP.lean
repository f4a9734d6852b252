/-
  Plain laws of the pure functions.
  Conditions: those that each statement prints, and no other.
-/
import Derived.Test.YtbikfekdakigiaaGreatDoorPSameP
import Derived.KernelRfl
set_option linter.unusedVariables false
set_option linter.unusedSimpArgs false
/-! There and back. -/
namespace Go.Proofs.YtbikfekdakigiaaGreatDoor.E
open Go.Ev
set_option maxRecDepth 100000

theorem alive17 : law17_alive big = some (true, ()) := by rw [big_eq]; kernel_rfl

theorem trs_of {l : List TrT} (h : Wf (.slice (.pair (.int .i64) (.pair (.int .i64) (.pair .str (.pair .bool .unit))))) l) (hs : ∀ t ∈ l, t.2.2.1.length ≤ 20) : TrsOk l := fun t ht => ⟨(h.2 t ht).1, (h.2 t ht).2.1, hs t ht⟩

/-- Behind 'select', and behind 'where'. -/
theorem select_lx {w : List UInt8} {T U : List Tk} (h : L.Txs 7 w T) (h' : L.Txs (7 + w.length + 14) w U) :
    L.Lx 0 ((([115, 101, 108, 101, 99, 116, 32] ++ w) ++ [32, 102, 114, 111, 109, 32, 116, 32, 119, 104, 101, 114, 101, 32]) ++ w)
      (L.mk (L.wd kSelect) 0 :: (T ++ (L.mk (L.wd kFrom) (7 + w.length + 1) :: L.mk (L.wd [116]) (7 + w.length + 6) :: L.mk (L.wd kWhere) (7 + w.length + 8) :: U))) := by
  have word : ∀ (u : List UInt8) (i : Nat), L.nextP u = some (L.wd u) → L.Txa i (u ++ [32]) [L.mk (L.wd u) i] := fun u i hn => L.Txs.app (L.txs_tok (hb_of hn) hn rfl) (L.txa_blank (i := i + u.length)) (c := 32) rfl (.inl rfl)
  have a := word kSelect 0 (by kernel_rfl)
  have b := L.Txa.app (L.txa_blank (i := 7 + w.length)) (L.Txa.app (word kFrom (7 + w.length + 1) (by kernel_rfl)) (L.Txa.app (word [116] (7 + w.length + 6) (by kernel_rfl)) (word kWhere (7 + w.length + 8) (by kernel_rfl))))
  have c := L.Txs.app h b (c := 32) rfl (.inl rfl)
  have d := L.Txa.apps (L.Txa.app a c) (v := w) (U := U) (by
    have e : 0 + (kSelect ++ [32] ++ (w ++ ([32] ++ (kFrom ++ [32] ++ ([116] ++ [32] ++ (kWhere ++ [32])))))).length = 7 + w.length + 14 := by simp [kSelect, kFrom, kWhere]; omega
    rw [e]; exact h')
  have := L.Lx_of d
  have e1 : (kSelect ++ [32] ++ (w ++ ([32] ++ (kFrom ++ [32] ++ ([116] ++ [32] ++ (kWhere ++ [32])))))) ++ w = (([115, 101, 108, 101, 99, 116, 32] ++ w) ++ [32, 102, 114, 111, 109, 32, 116, 32, 119, 104, 101, 114, 101, 32]) ++ w := by simp [kSelect, kFrom, kWhere]
  have e2 : ([L.mk (L.wd kSelect) 0] ++ (T ++ ([] ++ ([L.mk (L.wd kFrom) (7 + w.length + 1)] ++ ([L.mk (L.wd [116]) (7 + w.length + 6)] ++ [L.mk (L.wd kWhere) (7 + w.length + 8)]))))) ++ U = L.mk (L.wd kSelect) 0 :: (T ++ (L.mk (L.wd kFrom) (7 + w.length + 1) :: L.mk (L.wd [116]) (7 + w.length + 6) :: L.mk (L.wd kWhere) (7 + w.length + 8) :: U)) := by simp
  rw [e1, e2] at this
  exact this

theorem back_l0 {R : Type} {k0 : List TrT → Option R} {k1 : List TrT → Bool → Option R} {l : List TrT} (hl : l.length ≤ 140737488351232) : ∀ (m i fuel : Nat), i + m = l.length → m < fuel → (∀ (j : Nat) (h : j < l.length), j < i → (l[j]).2.2.1.length ≤ 20) →
    ((∀ t ∈ l, t.2.2.1.length ≤ 20) ∧ law17_ParseBack_l0 big R k0 k1 fuel l (i : Int) = k0 l) ∨ law17_ParseBack_l0 big R k0 k1 fuel l (i : Int) = k1 l true := by
  intro m
  induction m with
  | zero =>
    intro i fuel h1 h2 h3
    obtain ⟨f, rfl⟩ : ∃ f, fuel = f + 1 := ⟨fuel - 1, by omega⟩
    refine .inl ⟨fun t ht => ?_, ?_⟩
    · obtain ⟨j, hj, rfl⟩ := List.getElem_of_mem ht
      exact h3 j hj (by omega)
    · show law17_ParseBack_l0B big R (law17_ParseBack_l0 big R k0 k1 f) k0 k1 l (i : Int) = _
      unfold law17_ParseBack_l0B
      rw [if_f (by omega)]
  | succ m ih =>
    intro i fuel h1 h2 h3
    obtain ⟨f, rfl⟩ : ∃ f, fuel = f + 1 := ⟨fuel - 1, by omega⟩
    have hi : i < l.length := by omega
    have e : law17_ParseBack_l0 big R k0 k1 (f + 1) l (i : Int) = law17_ParseBack_l0B big R (law17_ParseBack_l0 big R k0 k1 f) k0 k1 l (i : Int) := rfl
    rw [e]
    unfold law17_ParseBack_l0B
    rw [if_t (by omega), nth_lt hi, bind_some']
    by_cases h : 20 < ((l[i]).2.2.1.length : Int)
    · rw [if_t h, alive17, bind_some']; exact .inr rfl
    · rw [if_f h, show IntKind.wrap .i64 ((i : Int) + 1) = ((i + 1 : Nat) : Int) by rw [wrap_i64_id (by omega) (by omega)]; omega]
      refine ih (i + 1) f (by omega) (by omega) fun j hj hji => ?_
      rcases Nat.lt_succ_iff_lt_or_eq.1 hji with h' | h'
      · exact h3 j hj h'
      · subst h'; omega

theorem onS_mk {g : SFn} {op vk vn num kind a : Int} {vs tab name : List UInt8} {ks : List Ex} {x : Ex} {r : Option (Bool × Unit)} (h : onS g (Ex.mk op vk vn vs tab name num ks kind a) x = r) :
    g op vk vn vs tab name num ks kind a x.op x.vk x.vn x.vs x.tab x.name x.num x.kids x.kind x.at_ false = r := h

theorem ParseBack_all (l : List TrT) (h : Wf (.slice (.pair (.int .i64) (.pair (.int .i64) (.pair .str (.pair .bool .unit))))) l) : law17_ParseBack big l = some (true, ()) := by
  have hN : 1000000 < big := L.big_million
  have hlen : l.length ≤ 140737488351232 := by
    have := h.1
    simp only [Ty.bytes, IntKind.bits] at this
    omega
  unfold law17_ParseBack law17_ParseBack_cps
  rcases back_l0 (R := Bool × Unit) (k0 := _) (k1 := _) hlen l.length 0 big (by omega) (by rw [big_eq]; omega) (fun j _ hj => absurd hj (Nat.not_lt_zero _)) with ⟨hs, e⟩ | e
  case inr => exact e
  refine e.trans ?_
  clear e
  obtain ⟨x, w, rest, e, hb, _⟩ := built_eq (by omega : 1000 ≤ big) (by decide : 8 ≤ 100) l (trs_of h hs)
  have e' : law17_built big l 8 = some (qb x rest) := e
  have hw : law17_written big x.op x.vk x.vn x.vs x.tab x.name x.num x.kids x.kind x.at_ = some (w, ()) := written_eq (by omega) (Nat.le_refl 8) hb
  have hg : hgt x ≤ big := by
    have := hb.hgt
    rw [big_eq]; omega
  rw [e', bind_some']
  dsimp only [qb]
  rw [hw, bind_some']
  dsimp only
  by_cases hl : 450 < (w.length : Int)
  · rw [if_t hl, alive17]; rfl
  rw [if_f hl]
  obtain ⟨T0, y0, a0, b0, c0, d0⟩ := back (N := big) (by omega) hb 0
  obtain ⟨T, y, a1, b1, c1, d1⟩ := back (N := big) (by omega) hb 7
  obtain ⟨U, z, a2, b2, c2, d2⟩ := back (N := big) (by omega) hb (7 + w.length + 14)
  rw [expression_read hN (by omega) (L.Lx_of a0) b0 (by omega) (by decide), bind_some', cond_t (room_one (by simp; omega)), cond_t (room_one (by simp; omega)), cond_t (room_one (by simp; omega))]
  obtain ⟨t, ht, h1, h2, h3⟩ := stmt_read hN (by simp; omega) (select_lx a1 a2) b1 b2 c1 (by omega) (by decide)
  rw [ht, bind_some']
  have s0 : ref17_Same big y0.op y0.vk y0.vn y0.vs y0.tab y0.name y0.num y0.kids y0.kind y0.at_ x.op x.vk x.vn x.vs x.tab x.name x.num x.kids x.kind x.at_ false = some (true, ()) := same_eq (by omega) d0 hg
  have s1 : ref17_Same big y.op y.vk y.vn y.vs y.tab y.name y.num y.kids y.kind y.at_ x.op x.vk x.vn x.vs x.tab x.name x.num x.kids x.kind x.at_ false = some (true, ()) := same_eq (by omega) d1 hg
  have s2 : onS (ref17_Same big) z x = some (true, ()) := same_eq (by omega) d2 hg
  obtain ⟨d, p0, p1⟩ := deep_eq (by omega : 1000 ≤ big) d0 hg
  have p0' : parse_Deep big y0.op y0.vk y0.vn y0.vs y0.tab y0.name y0.num y0.kids y0.kind y0.at_ = some (d, ()) := p0
  have p1' : parse_Deep big x.op x.vk x.vn x.vs x.tab x.name x.num x.kids x.kind x.at_ = some (d, ()) := p1
  dsimp only
  rw [s0, bind_some']
  dsimp only
  rw [isNil_nil, cnt, h1, isNil_nil, cnt, cnt, h2, cond_f (by rfl)]
  unfold law17_ParseBack_j1
  rw [nth_zero, bind_some', s1, bind_some']
  rw [← h3] at s2
  rw [onS_mk s2, bind_some', alive17, bind_some']
  dsimp only
  rw [ct, ct, ct, p0', bind_some', p1', bind_some']
  simp

theorem ParseBack_pure : ParseBack_Pure := fun x hx => ParseBack_all x.1 hx.1

end Go.Proofs.YtbikfekdakigiaaGreatDoor.E
