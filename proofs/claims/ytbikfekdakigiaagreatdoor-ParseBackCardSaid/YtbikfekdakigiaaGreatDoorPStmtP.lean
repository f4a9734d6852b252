/-
  Plain laws of the pure functions.
  Conditions: those that each statement prints, and no other.
-/
import Derived.Test.YtbikfekdakigiaaGreatDoorPWrittenP
import Derived.Test.YtbikfekdakigiaaGreatDoorPMLexLP
set_option linter.unusedVariables false
set_option linter.unusedSimpArgs false
/-! A text between 'select' and 'from', and behind 'where'. -/
namespace Go.Proofs.YtbikfekdakigiaaGreatDoor.E
open Go.Ev
set_option maxRecDepth 100000

def kSelect : List UInt8 := [115, 101, 108, 101, 99, 116]
def kFrom : List UInt8 := [102, 114, 111, 109]
def kWhere : List UInt8 := [119, 104, 101, 114, 101]

theorem whole_read {N : Nat} (hN : 1000 ≤ N) {c : Nat} {k : Int} {T : List Tk} {x : Ex} (hr : Reads N c k T x) (hc : c ≤ N + 1) (hk : k ≤ 64) {rest : List Tk} (hs : Stop 0 rest) : parse_parser_whole N (T ++ rest) 0 .nil = some (q x rest 0 .nil) := by
  have hsim := parser_whole N hN 0 (some (T ++ rest)) (T ++ rest) .nil (by decide) (by decide) (.ok (wt_append hs.wt))
  have h1 : wholeS N (zAt N N) 0 (some (T ++ rest)) = some (x, some rest) := hr 0 rest (N + 1) (by decide) (by omega) hs hc
  rw [h1] at hsim
  obtain ⟨l', e', hq, hr⟩ := hsim
  obtain ⟨rfl, rfl, hw2⟩ := hr
  exact hq

theorem list_read {N : Nat} (hN : 1000 ≤ N) {c : Nat} {k : Int} {T : List Tk} {x : Ex} (hr : Reads N c k T x) (hc : c ≤ N + 1) (hk : k ≤ 64) {t : Tk} {r : List Tk} (hs : Stop 0 (t :: r)) (ht : isTok [44] t = false) : parse_parser_list N (T ++ t :: r) 0 .nil = some ([x], (t :: r, (0, (.nil, ())))) := by
  obtain ⟨f, hf⟩ : ∃ f, N = f + 1 := ⟨N - 1, by omega⟩
  unfold parse_parser_list parse_parser_list_cps
  rw [whole_read hN hr hc hk hs, bind_some']
  dsimp only [q]
  rw [mk_eta]
  have step : ∀ m, parse_parser_list_l0 N _ (fun v5 v6 v7 v8 => some (v5, (v6, (v7, (v8, ()))))) (m + 1) [x] (t :: r) 0 .nil = some ([x], (t :: r, (0, (.nil, ())))) := by
    intro m
    show parse_parser_list_l0B N _ _ _ [x] (t :: r) 0 .nil = _
    unfold parse_parser_list_l0B
    rw [take_nil, bind_some']
    dsimp only
    rw [ht, cf, cf]
  have := step f
  rw [← hf] at this
  exact this

theorem where_read {N : Nat} (hN : 1000 ≤ N) {c : Nat} {k : Int} {T : List Tk} {x : Ex} (hr : Reads N c k T x) (hc : c ≤ N + 1) (hk : k ≤ 64) {rest : List Tk} (hs : Stop 0 rest) {t : Tk} (ht : isTok kWhere t = true) : parse_parser_where N [119, 104, 101, 114, 101] (t :: (T ++ rest)) 0 .nil = some (q x rest 0 .nil) := by
  unfold parse_parser_where parse_parser_where_cps
  have ht' : isTok [119, 104, 101, 114, 101] t = true := ht
  rw [take_nil, bind_some']
  dsimp only
  rw [ht', ct, ct, whole_read hN hr hc hk hs, bind_some']

theorem stop_word {u : List UInt8} {i : Nat} {r : List Tk} (hr : Wt r) (h : ∀ l, opOf l 1 u = 0) (hi : u ≠ kIs) (hp : u ≠ [46]) : Stop 0 (L.mk (L.wd u) i :: r) :=
  ⟨.inr hr, fun t r' e => by cases e; exact ⟨fun l _ => h l, fun _ => ⟨tok_ne rfl hi, fun hh => absurd (show (1 : Int) = 5 from hh.1) (by decide)⟩, tok_ne rfl hp⟩⟩

theorem stop_end6 {n : Nat} : Stop 0 [L.endT n] :=
  ⟨.inl rfl, fun t r' e => by
    cases e
    exact ⟨fun l _ => by unfold opOf; exact if_neg (show ¬ ((6 : Int) = 1 ∨ (6 : Int) = 5) by decide), fun _ => ⟨rfl, fun hh => absurd (show (6 : Int) = 5 from hh.1) (by decide)⟩, rfl⟩⟩

/-- The expression that a text is. -/
theorem expression_read {N : Nat} (hN : 1000000 < N) {c : Nat} {k : Int} {T : List Tk} {x : Ex} {w : List UInt8} (hl : w.length ≤ 1000) (hT : L.Lx 0 w T) (hr : Reads N c k T x) (hc : c ≤ N + 1) (hk : k ≤ 64) :
    parse_Expression N w = some (x.op, x.vk, x.vn, x.vs, x.tab, x.name, x.num, x.kids, x.kind, x.at_, .nil, ()) := by
  unfold parse_Expression parse_Expression_cps
  rw [L.Lex_ok hN hl hT, bind_some']
  dsimp only
  rw [isNil_nil, cnt, cnt, whole_read (by omega) hr hc hk stop_end6, bind_some']
  unfold parse_parser_ended parse_parser_ended_cps
  dsimp only [q]
  rw [nth_zero, bind_some', cond_f (by rfl), bind_some']
  dsimp only
  rw [isNil_nil, cnt]

theorem at_nil {N : Nat} {t : Tk} {r : List Tk} {d : Int} {e : Err} : parse_parser_at N (t :: r) d e = some (t.2.2.2.1, ()) := rfl

theorem nop_word {u : List UInt8} (h1 : u ≠ [111, 114]) (h2 : u ≠ [97, 110, 100]) (h3 : u ≠ [43]) (h4 : u ≠ [45]) (h5 : u ≠ [42]) (h6 : u ≠ [47]) : ∀ l, opOf l 1 u = 0 := by
  intro l
  unfold opOf
  rw [if_neg h1, if_neg h2, if_neg h3, if_neg h4, if_neg h5, if_neg h6]
  simp

theorem tk_ne {i : Nat} {u s : List UInt8} (h : u ≠ s) : isTok s (L.mk (L.wd u) i) = false := tok_ne rfl h
theorem tk_eq {i : Nat} {u : List UInt8} : isTok u (L.mk (L.wd u) i) = true := by
  show ((decide ((1 : Int) = 1) || decide ((1 : Int) = 5)) && decide (u = u)) = true
  simp

/-- The statement that 'select X from t where Y' is. -/
theorem stmt_read {N : Nat} (hN : 1000000 < N) {c : Nat} {k : Int} {T U : List Tk} {x y : Ex} {s : List UInt8} (hl : s.length ≤ 1000) {i1 i2 i3 i4 : Nat}
    (hT : L.Lx 0 s (L.mk (L.wd kSelect) i1 :: (T ++ (L.mk (L.wd kFrom) i2 :: L.mk (L.wd [116]) i3 :: L.mk (L.wd kWhere) i4 :: U)))) (hr : Reads N c k T x) (hr' : Reads N c k U y) (hd : Hd T) (hc : c ≤ N + 1) (hk : k ≤ 64) :
    ∃ t, parse_Parse N s = some t ∧ t.2.2.2.2.2.2.2.2.2.2.2.2.2.2.2.2.2.2.2.2.2.2.2.2.2.2.2.2.2.2.1 = .nil ∧ t.2.2.2.2.2.2.2.2.2.2.2.2.2.2.2.2.2.2.2.2.2.2.2.1 = [x] ∧
      Ex.mk t.2.2.2.2.2.2.2.2.2.2.2.2.2.1 t.2.2.2.2.2.2.2.2.2.2.2.2.2.2.1 t.2.2.2.2.2.2.2.2.2.2.2.2.2.2.2.1 t.2.2.2.2.2.2.2.2.2.2.2.2.2.2.2.2.1 t.2.2.2.2.2.2.2.2.2.2.2.2.2.2.2.2.2.1 t.2.2.2.2.2.2.2.2.2.2.2.2.2.2.2.2.2.2.1 t.2.2.2.2.2.2.2.2.2.2.2.2.2.2.2.2.2.2.2.1 t.2.2.2.2.2.2.2.2.2.2.2.2.2.2.2.2.2.2.2.2.1 t.2.2.2.2.2.2.2.2.2.2.2.2.2.2.2.2.2.2.2.2.2.1 t.2.2.2.2.2.2.2.2.2.2.2.2.2.2.2.2.2.2.2.2.2.2.1 = y := by
  have h1 : 1000 ≤ N := by omega
  have h2 : ∃ f, N = f + 2 := ⟨N - 2, by omega⟩
  obtain ⟨u, v, rfl, hu⟩ := hd
  have hE := L.Lex_ok hN hl hT
  have wE : Wt [L.endT s.length] := .inl rfl
  have wU : Wt (U ++ [L.endT s.length]) := wt_append wE
  refine ⟨?t, ?a, ?b⟩
  case a =>
    unfold parse_Parse parse_Parse_cps
    rw [hE, bind_some']
    dsimp only
    rw [isNil_nil, cnt, cnt]
    simp only [List.cons_append, List.append_assoc]
    rw [take_nil, bind_some']
    dsimp only
    rw [show isTok [115, 101, 108, 101, 99, 116] (L.mk (L.wd kSelect) i1) = true from tk_eq, ct, ct]
    unfold parse_parser_selects parse_parser_selects_cps
    rw [take_nil, bind_some']
    dsimp only
    rw [hu, cf, cnf]
    have hlist := list_read h1 hr hc hk (t := L.mk (L.wd kFrom) i2) (r := L.mk (L.wd [116]) i3 :: L.mk (L.wd kWhere) i4 :: (U ++ [L.endT s.length])) (stop_word (.inr (.inr wU)) (nop_word (by decide) (by decide) (by decide) (by decide) (by decide) (by decide)) (by decide) (by decide)) (tk_ne (by decide))
    rw [List.cons_append] at hlist
    rw [hlist, bind_some']
    unfold parse_parser_selects_j0
    dsimp only
    rw [want_nil N h2, show isTok [102, 114, 111, 109] (L.mk (L.wd kFrom) i2) = true from tk_eq, ct, bind_some']
    unfold parse_parser_table parse_parser_table_cps
    dsimp only
    rw [at_nil, bind_some', name_nil N h1, if_pos ⟨rfl, (show ([116] : List UInt8) ∉ resv by decide)⟩, bind_some', bind_some']
    dsimp only
    rw [take_nil, bind_some']
    dsimp only
    rw [tk_ne (by decide), cf, cf]
    unfold parse_parser_selects_j1
    rw [where_read h1 hr' hc hk stop_end6 tk_eq, bind_some']
    dsimp only [q]
    rw [take_nil, bind_some']
    dsimp only
    rw [show ∀ w n, isTok w (L.endT n) = false from fun _ _ => rfl, cf, cf]
    unfold parse_parser_selects_j2
    rw [take_nil, bind_some']
    dsimp only
    rw [show ∀ w n, isTok w (L.endT n) = false from fun _ _ => rfl, cf, cf]
    unfold parse_parser_selects_j5
    rw [take_nil, bind_some']
    dsimp only
    rw [show ∀ w n, isTok w (L.endT n) = false from fun _ _ => rfl, cf, cf]
    rw [bind_some']
    dsimp only
    rw [take_nil, bind_some']
    dsimp only
    unfold parse_parser_ended parse_parser_ended_cps
    rw [show ∀ w n, isTok w (L.endT n) = false from fun _ _ => rfl, cf, nth_zero, bind_some', cond_f (by rfl), bind_some']
    dsimp only
    rw [isNil_nil, cnt]
  case b => exact ⟨rfl, rfl, mk_eta y⟩

end Go.Proofs.YtbikfekdakigiaaGreatDoor.E
