/-
  An evaluator of the model's code over plain values, and that it is sound (part 2).
  Conditions: those that each statement prints, and no other.
-/
import Derived.Test.YtbikfekdakigiaaGreatDoorEvA
import Derived.Laws.Build
import Derived.Laws.Small
import Derived.LoopN
set_option linter.unusedVariables false
set_option linter.unusedSimpArgs false
namespace Go.Ev
section
variable {P : Program} {X : Cfg} {R : Type} {φ : List Nat} {G : Nat → Nat} {w : World}
theorem RowOk.append {t : Ty} {l l2 : List t.den} {o n : List Value} (h1 : RowOk X φ G w t l o) (h2 : RowOk X φ G w t l2 n) : RowOk X φ G w t (l ++ l2) (o ++ n) := by
 refine ⟨by simp [h1.len, h2.len, Nat.add_mul], fun i x hx j c hc => ?_⟩
 have hj : j < t.size := by rw [← cells_length t x]; exact (List.getElem?_eq_some_iff.1 hc).1
 by_cases hi : i < l.length
 · rw [List.getElem?_append_left hi] at hx
   obtain ⟨u, hu, hr⟩ := h1.rep i x hx j c hc
   exact ⟨u, by rw [List.getElem?_append_left (List.getElem?_eq_some_iff.1 hu).1]; exact hu, hr⟩
 · rw [List.getElem?_append_right (by omega)] at hx
   obtain ⟨u, hu, hr⟩ := h2.rep _ x hx j c hc
   have hm : l.length * t.size ≤ i * t.size := Nat.mul_le_mul_right _ (by omega)
   refine ⟨u, ?_, hr⟩
   rw [List.getElem?_append_right (by rw [h1.len]; omega), h1.len]
   rw [Nat.sub_mul] at hu
   rw [show i * t.size + j - l.length * t.size = i * t.size - l.length * t.size + j by omega]
   exact hu
theorem RowOk.mono {t : Ty} {l : List t.den} {n : List Value} (h : RowOk X φ G w t l n) {w' : World} (hw : ∀ b o, o < G b → w'.cell? ⟨b, o, none⟩ = w.cell? ⟨b, o, none⟩) : RowOk X φ G w' t l n :=
 ⟨h.len, fun i x hx j c hc => let ⟨u, hu, hr⟩ := h.rep i x hx j c hc; ⟨u, hu, hr.mono (fun _ _ h => h) (fun _ => Nat.le_refl _) hw⟩⟩
theorem Sim.pushN {g env vals sto} (h : Sim X g w env vals sto) (d : D) (v : Value) (hr : RepV X g.φ g.G w d v) (hl : d.leaf = true) (hv : ∀ a len cap, v ≠ .slice (some a) len cap) :
 Sim X g w (env ++ [d]) (vals ++ [v]) sto := by
 have h1 := h.push .any v (.any v) rfl
 refine h1.re_id (by simp [h.len]) ?_ ?_
 · intro t d' v' hd hv'
   rcases getElem?_snoc hd with ⟨hl, hd⟩ | ⟨rfl, rfl⟩
   · rw [List.getElem?_append_left (h.len ▸ hl)] at hv'; exact h.rep t d' v' hd hv'
   · rw [h.len] at hv'; simp at hv'; subst hv'; exact hr
 · intro ℓ md ty l a len cap ho hmd
   cases ℓ with
   | env t j =>
    by_cases ht : t < env.length
    · exact ho.shift (by rw [List.getElem?_append_left ht, List.getElem?_append_left ht]) rfl
    · have he : t = env.length := by have := ho.lt; simp at this; omega
      subst he
      exfalso
      generalize hℓ : Loc.env env.length j = ℓ at ho
      generalize hx : D.sl md ty l = x at ho
      generalize hy : Value.slice (some a) len cap = y at ho
      cases ho with
      | leaf hd hv' => cases hℓ; rw [h.len] at hv'; simp at hv'; subst hv'; exact hv _ _ _ hy.symm
      | agg hd hv' hj' he => cases hℓ; simp at hd; subst hd; cases hl
      | tup hd hv' hj' he => cases hℓ; simp at hd; subst hd; cases hl
      | cell => cases hℓ
   | obj i => exact ho.not_obj.elim
   | cell i j => exact ho.of_slot (fun _ _ h => by cases h)
theorem append_more {g env vals sto} (hs : Sim X g w env vals sto) {st t2 ty e : TypeId} {te : TE} {et : Ty} (hst : P.underlying st = some (.slice e)) {d2 : TypeDesc} (ht2 : P.underlying t2 = some d2)
 (hd2 : (∃ e2, d2 = .slice e2) ∨ d2 = .string) (hte : TEok P e te) (hty : te.ty = some et) {l l' : List et.den} {base : Option Addr} {cap : Nat} {vy : Value} {olds news : List Value}
 (ho : RowOk X g.φ g.G w et l olds) (hn : RowOk X g.φ g.G w et l' news)
 (hfo : ∀ w', w'.heap = w.heap → (Builtin.firstCells et.size l.length (.slice base l.length cap)).run P w' = .ok olds.toArray w')
 (hlen : ∀ w', (Builtin.lenOf vy).run P w' = .ok l'.length w')
 (hf : ∀ w', w'.heap = w.heap → (Builtin.firstCells et.size l'.length vy).run P w' = .ok news.toArray w')
 (hg : cap < l.length + l'.length) (hroom : room te.bytes (l.length + l'.length) = true) :
 ∃ v w' g', (Builtin.append_ #[st, t2] ty #[.slice base l.length cap, vy]).run P w = .ok v w' ∧ Sim X g' w' (env ++ [.sl .own et (l ++ l')]) (vals ++ [v]) sto ∧ Ext g w g' w' := by
 obtain ⟨i, z, hi, hsz, hby, hz, hzl⟩ := hte.info
 obtain ⟨hts, hta, h1s, h1b⟩ := hte.ty et hty
 have hr := room_le hroom
 have hise : i.size = et.size := hsz.trans hts.symm
 have hle : l.length + l'.length ≤ 140737488355328 := Nat.le_trans (Nat.le_mul_of_pos_right _ h1b) hr
 have hfit := growslice_fits hg hr
 rw [← hby] at hfit
 have hrun := run_append_more (P := P) (w := w) (ty := ty) (base := base) (sCap := cap) (sLen := l.length) (m := l'.length) (x := vy) (olds := olds) (news := news) hst ht2 hd2 hi hz (hlen w)
  (by rw [hise]; exact hf w.drew rfl) (by rw [hise]; exact hfo w.drew rfl) hg (by omega) hfit
 have hrow := (ho.append hn)
 have hzs : z.cells.size = et.size := by
  have := (zeroL_spec hzl).1
  rw [hte.zlen] at this; rw [← Array.length_toList, this, hts]
 have hge := grownCap_ge w (l.length + l'.length) cap e
 have hcm : grownCap w (l.length + l'.length) cap e ≤ maxLen := grownCap_le_maxLen w _ cap e (by unfold maxLen; omega)
 have hlo := ho.len
 have hln := hn.len
 obtain ⟨g', h2, e2⟩ := (hs.alike (Alike.drew w)).newOwn (t := et) (l := l ++ l') (olds.toArray ++ news.toArray ++ Builtin.zeroCells z.cells (grownCap w (l.length + l'.length) cap e - (l.length + l'.length))) e (0, 0)
  (grownCap w (l.length + l'.length) cap e) (fun j => (olds ++ news).getD j undef)
  (fun j hj => by
   rw [← hrow.len] at hj
   have hj2 : j < (olds.toArray ++ news.toArray).size := by simpa using hj
   rw [Array.getElem?_append_left hj2]
   simp only [List.append_toArray, List.getElem?_toArray]
   rw [List.getElem?_eq_getElem hj]; simp only [List.getD, List.getElem?_eq_getElem hj]; rfl)
  (fun ii x hx j c hc => by
   obtain ⟨u, hu, hr⟩ := hrow.rep ii x hx j c hc
   have : (olds ++ news).getD (ii * et.size + j) undef = u := by simp only [List.getD, hu]; rfl
   rw [this]; exact RepV.mono (w := w) (w' := w.drew) (fun _ _ h => h) (fun _ => Nat.le_refl _) (fun _ _ _ => rfl) hr)
  (by rw [List.length_append]; exact hge) (by unfold maxLen at hcm; exact hcm)
  (by
   simp only [Array.size_append, List.size_toArray, size_zeroCells, hzs, hlo, hln, ← Nat.add_mul]
   exact Nat.mul_le_mul_right _ (by omega))
  (.inl (Nat.le_refl _))
 rw [List.length_append] at h2
 exact ⟨_, _, g', hrun, h2, (Ext.alike g (Alike.drew w)).trans e2⟩
def ApOk (P : Program) (X : Cfg) (w : World) (g : Gh) (env : List D) (vals : List Value) (sto : Sto) (st t2 ty : TypeId) (vx vy : Value) (d : D) : Prop :=
 ∃ v w' g', (Builtin.append_ #[st, t2] ty #[vx, vy]).run P w = .ok v w' ∧ Sim X g' w' (env ++ [d]) (vals ++ [v]) sto ∧ Ext g w g' w'
theorem ap_none {g env vals sto} (hs : Sim X g w env vals sto) {st t2 ty e : TypeId} {te : TE} {et : Ty} (hst : P.underlying st = some (.slice e)) {d2 : TypeDesc} (ht2 : P.underlying t2 = some d2)
 (hd2 : (∃ e2, d2 = .slice e2) ∨ d2 = .string) (hte : TEok P e te) (hty : te.ty = some et) {l' : List et.den} {vy : Value} {news : List Value}
 (hn : RowOk X g.φ g.G w et l' news)
 (hlen : ∀ w', (Builtin.lenOf vy).run P w' = .ok l'.length w')
 (hf : ∀ w', w'.heap = w.heap → (Builtin.firstCells et.size l'.length vy).run P w' = .ok news.toArray w')
 (hroom : room te.bytes l'.length = true) : ApOk P X w g env vals sto st t2 ty (.slice none 0 0) vy (.sl .own et l') := by
 by_cases e0 : l' = []
 · subst e0
   obtain ⟨i, zv, hi, hisz, hiby, hz, hzl⟩ := hte.info
   obtain ⟨hts, _⟩ := hte.ty et hty
   refine ⟨.slice none 0 0, w, g, ?_, hs.pushN _ _ (.slNil (by decide)) rfl (by intro a len cap h; cases h), .refl _ _⟩
   have hf0 := hf w rfl
   rw [← hts] at hisz
   have hl0 := hlen w
   simp only [List.length_nil] at hf0 hl0
   rcases hd2 with ⟨e2, rfl⟩ | rfl <;> simp [Builtin.append_, run_underlying hst, run_underlying ht2, sizeOf, typeInfo, hi, hl0, hisz, hf0]
 · obtain ⟨v, w', g', h1, h2, h3⟩ := append_more (P := P) (ty := ty) hs hst ht2 hd2 hte hty (l := []) (l' := l') (base := none) (cap := 0) (vy := vy) (olds := []) (news := news)
    ⟨by simp, fun i x hx => by simp at hx⟩ hn (fun w' _ => rfl) hlen hf (by have := List.length_pos_iff.2 e0; simpa using this) (by simpa using hroom)
   exact ⟨v, w', g', h1, h2, h3⟩
theorem ap_in {g env vals sto} {st t2 ty e : TypeId} {te : TE} {et : Ty} {l l' : List et.den} {md : Md} {b off cap : Nat} {vy : Value} (hs : Sim X g w (env ++ [.sl md et l]) (vals ++ [.slice (some ⟨b, off, none⟩) l.length cap]) sto) (hmd : md.keeps l.length cap)
 (hst : P.underlying st = some (.slice e)) {d2 : TypeDesc} (ht2 : P.underlying t2 = some d2)
 (hd2 : (∃ e2, d2 = .slice e2) ∨ d2 = .string) (hte : TEok P e te) (hty : te.ty = some et) {news : List Value}
 (hn : RowOk X g.φ g.G w et l' news)
 (hlen : ∀ w', (Builtin.lenOf vy).run P w' = .ok l'.length w')
 (hf : ∀ w', w'.heap = w.heap → (Builtin.firstCells et.size l'.length vy).run P w' = .ok news.toArray w')
 (hg : ¬ cap < l.length + l'.length) : ApOk P X w g env vals sto st t2 ty (.slice (some ⟨b, off, none⟩) l.length cap) vy (.sl .own et (l ++ l')) := by
 have hl : env.length = vals.length := by have := hs.len; simpa using this
 obtain ⟨g', h2, e2⟩ := hs.appendIn hmd (l2 := l') (ys := news) hn.len (by omega) hn.rep
 refine ⟨_, _, g', ?_, h2, e2⟩
 obtain ⟨kk, gg, sp⟩ := hs.own (.env env.length 0) md _ l ⟨b, off, none⟩ l.length cap (.leaf (by simp) (by rw [hl]; simp)) hmd
 obtain ⟨i, zv, hi, hisz, hiby, hz, hzl⟩ := hte.info
 obtain ⟨hts, _⟩ := hte.ty et hty
 have hisz2 : i.size = et.size := hisz.trans hts.symm
 have hcapm : (l.length + l'.length) * et.size ≤ cap * et.size := Nat.mul_le_mul_right _ (Nat.le_of_not_lt hg)
 have hnl := hn.len
 rw [Nat.add_mul] at hcapm
 have hrr := run_append_room (P := P) (w := w) (ty := ty) (b := b) (off := off) (sLen := l.length) (sCap := cap) (m := l'.length) (x := vy) (news := news) hst ht2 hd2 hi (hlen w)
  (by rw [hisz2]; exact hf w rfl) (by rw [hisz2]; exact hnl) hn.one (by omega)
  (fun j hj => by
   rw [hisz2]
   obtain ⟨⟨u, hu⟩, _⟩ := sp (l.length * et.size + j) (by omega) (by omega)
   rw [Nat.add_assoc]; simp only at hu; rw [hu]; rfl)
  (fun j hj => by
   rw [hisz2]
   obtain ⟨_, hz⟩ := sp (l.length * et.size + j) (by omega) (by omega)
   rw [Nat.add_assoc]; exact hz)
 rw [hisz2] at hrr
 exact hrr
theorem ap_own {g env vals sto} {st t2 ty e : TypeId} {te : TE} {et : Ty} {l l' : List et.den} {vx vy : Value} (hs : Sim X g w (env ++ [.sl .own et l]) (vals ++ [vx]) sto)
 (hst : P.underlying st = some (.slice e)) {d2 : TypeDesc} (ht2 : P.underlying t2 = some d2)
 (hd2 : (∃ e2, d2 = .slice e2) ∨ d2 = .string) (hte : TEok P e te) (hty : te.ty = some et) {news : List Value}
 (hn : RowOk X g.φ g.G w et l' news)
 (hlen : ∀ w', (Builtin.lenOf vy).run P w' = .ok l'.length w')
 (hf : ∀ w', w'.heap = w.heap → (Builtin.firstCells et.size l'.length vy).run P w' = .ok news.toArray w')
 (hroom : room te.bytes (l.length + l'.length) = true) : ApOk P X w g env vals sto st t2 ty vx vy (.sl .own et (l ++ l')) := by
 have hl : env.length = vals.length := by have := hs.len; simpa using this
 have hx := hs.rep env.length (.sl .own et l) vx (by simp) (by rw [hl]; simp)
 obtain ⟨a, cap, rfl⟩ := rep_slice_form hx
 obtain ⟨_, olds, ho, hfo⟩ := row_of_sl (P := P) hx
 by_cases hg : cap < l.length + l'.length
 · obtain ⟨v, w', g', h1, h2, h3⟩ := append_more (P := P) (ty := ty) hs.drop hst ht2 hd2 hte hty ho hn hfo hlen hf hg hroom
   exact ⟨v, w', g', h1, h2, h3⟩
 · rcases rep_slice_inv hx with ⟨e0, e1, _, e2, _⟩ | ⟨_, _, _, hm, _⟩ | ⟨b, off, vs, e1, _, hlc, _⟩
   · subst e0; subst e1; subst e2
     have := ap_none (P := P) (ty := ty) hs.drop hst ht2 hd2 hte hty hn hlen hf (by simpa using hroom)
     simpa using this
   · exact absurd rfl hm
   · subst e1
     exact ap_in hs (.inl rfl) hst ht2 hd2 hte hty hn hlen hf hg
theorem ap_same {g env vals sto} {st t2 ty e : TypeId} {te : TE} {et : Ty} {m : Md} {l : List et.den} {vx vy : Value} (hs : Sim X g w (env ++ [.sl m et l]) (vals ++ [vx]) sto)
 (hst : P.underlying st = some (.slice e)) {d2 : TypeDesc} (ht2 : P.underlying t2 = some d2)
 (hd2 : (∃ e2, d2 = .slice e2) ∨ d2 = .string) (hte : TEok P e te) (hty : te.ty = some et) {news : List Value}
 (hn : RowOk X g.φ g.G w et ([] : List et.den) news)
 (hlen : ∀ w', (Builtin.lenOf vy).run P w' = .ok ([] : List et.den).length w')
 (hf : ∀ w', w'.heap = w.heap → (Builtin.firstCells et.size ([] : List et.den).length vy).run P w' = .ok news.toArray w') : ApOk P X w g env vals sto st t2 ty vx vy (.sl m et l) := by
 have hl : env.length = vals.length := by have := hs.len; simpa using this
 have hx := hs.rep env.length (.sl m et l) vx (by simp) (by rw [hl]; simp)
 obtain ⟨a, cap, rfl⟩ := rep_slice_form hx
 obtain ⟨i, zv, hi, hisz, hiby, hz, hzl⟩ := hte.info
 obtain ⟨hts, _⟩ := hte.ty et hty
 refine ⟨_, w, g, ?_, hs, .refl _ _⟩
 have hf0 := hf w rfl
 rw [← hts] at hisz
 have hl0 := hlen w
 simp only [List.length_nil] at hf0 hl0
 have hlc : l.length ≤ cap := by
  rcases rep_slice_inv hx with ⟨e0, _, _, e2, _⟩ | ⟨e0, _⟩ | ⟨_, _, _, _, _, hlc, _⟩
  · subst e0; simp
  · subst e0; simp
  · exact hlc
 have hnews : news = [] := List.length_eq_zero_iff.1 (by simpa using hn.len)
 subst hnews
 have hnc : ¬ cap < l.length := Nat.not_lt.2 hlc
 cases a with
 | none => rcases hd2 with ⟨e2, rfl⟩ | rfl <;> simp [Builtin.append_, run_underlying hst, run_underlying ht2, sizeOf, typeInfo, hi, hl0, hisz, hf0, hnc]
 | some p => rcases hd2 with ⟨e2, rfl⟩ | rfl <;> simp [Builtin.append_, run_underlying hst, run_underlying ht2, sizeOf, typeInfo, hi, hl0, hisz, hf0, hlc, storeCells]
theorem ApOk.oc {g env vals sto} {st t2 ty : TypeId} {et : Ty} {l : List et.den} {vx vy : Value} (h : ApOk P X w g env vals sto st t2 ty vx vy (.sl .own et l)) : ApOk P X w g env vals sto st t2 ty vx vy (.sl .oc et l) := by
 obtain ⟨v, w', g', h1, h2, h3⟩ := h
 exact ⟨v, w', g', h1, h2.ownOc, h3⟩
theorem ap_oc {g env vals sto} {st t2 ty e : TypeId} {te : TE} {et : Ty} {l l' : List et.den} {vx vy : Value} (hs : Sim X g w (env ++ [.sl .oc et l]) (vals ++ [vx]) sto)
 (hst : P.underlying st = some (.slice e)) {d2 : TypeDesc} (ht2 : P.underlying t2 = some d2)
 (hd2 : (∃ e2, d2 = .slice e2) ∨ d2 = .string) (hte : TEok P e te) (hty : te.ty = some et) {news : List Value}
 (hn : RowOk X g.φ g.G w et l' news)
 (hlen : ∀ w', (Builtin.lenOf vy).run P w' = .ok l'.length w')
 (hf : ∀ w', w'.heap = w.heap → (Builtin.firstCells et.size l'.length vy).run P w' = .ok news.toArray w')
 (hroom : room te.bytes (l.length + l'.length) = true) : ApOk P X w g env vals sto st t2 ty vx vy (.sl .oc et (l ++ l')) := by
 have hl : env.length = vals.length := by have := hs.len; simpa using this
 have hx := hs.rep env.length (.sl .oc et l) vx (by simp) (by rw [hl]; simp)
 obtain ⟨a, cap, rfl⟩ := rep_slice_form hx
 obtain ⟨_, olds, ho, hfo⟩ := row_of_sl (P := P) hx
 by_cases hg : cap < l.length + l'.length
 · obtain ⟨v, w', g', h1, h2, h3⟩ := append_more (P := P) (ty := ty) hs.drop hst ht2 hd2 hte hty ho hn hfo hlen hf hg hroom
   exact ApOk.oc ⟨v, w', g', h1, h2, h3⟩
 · by_cases e0 : l' = []
   · subst e0
     rw [List.append_nil]
     exact ap_same hs hst ht2 hd2 hte hty hn hlen hf
   · have hpos : 0 < l'.length := List.length_pos_iff.2 e0
     rcases rep_slice_inv hx with ⟨e0, e1, _, e2, _⟩ | ⟨e0, _, _, _, e2, _⟩ | ⟨b, off, vs, e1, _, hlc, _⟩
     · subst e2; omega
     · have := e2 (.inr rfl); omega
     · subst e1
       exact ApOk.oc (ap_in hs (.inr ⟨rfl, by omega⟩) hst ht2 hd2 hte hty hn hlen hf hg)
theorem appendK_soundT {cx : Cx} (hcx : CxOk P X cx) {st t2 ty : TypeId} {x y : D} {k : D → Option R} {r : R} (h : appendK cx st x y k = some r) {g env vals sto} {vx vy : Value}
 (hs : Sim X g w (env ++ [x]) (vals ++ [vx]) sto)
 (hy : ∀ {t : Ty} {l : List t.den}, tailOf t y = some l → ∃ news, RowOk X g.φ g.G w t l news ∧ (∀ w', (Builtin.lenOf vy).run P w' = .ok l.length w') ∧ ∀ w', w'.heap = w.heap → (Builtin.firstCells t.size l.length vy).run P w' = .ok news.toArray w')
 {d2 : TypeDesc} (ht2 : P.underlying t2 = some d2) (hd2 : (∃ e2, d2 = .slice e2) ∨ d2 = .string) :
 ∃ d, k d = some r ∧ ApOk P X w g env vals sto st t2 ty vx vy d := by
 unfold appendK at h
 split at h
 · rename_i e sz1 by1 ag1 ty1 z1 hst0
   obtain ⟨ds, hds, hk⟩ := desc_int hcx hst0
   obtain rfl : ds = .slice e := by
    cases ds <;> first | (have := Nat.eq_of_beq_eq_true hk; subst this; rfl) | cases hk
   split at h
   · rename_i d0 sz by_ ag et z he0
     have hte := hcx.tab _ _ he0
     split at h
     · rename_i l' htail
       obtain ⟨news, hn, hlen, hf⟩ := hy htail
       split at h
       · split at h
         · rename_i hroom
           have hl : env.length = vals.length := by have := hs.len; simpa using this
           have hx := hs.rep env.length .nils vx (by simp) (by rw [hl]; simp)
           obtain rfl : vx = .slice none 0 0 := by cases hx; rfl
           exact ⟨_, h, ap_none hs.drop hds ht2 hd2 hte rfl hn hlen hf hroom⟩
         · cases h
       · split at h
         · rename_i t l0 _ l hcast
           obtain ⟨e, hcast⟩ := castL_some hcast
           subst e
           subst hcast
           split at h
           · rename_i hroom
             exact ⟨_, h, ap_own hs hds ht2 hd2 hte rfl hn hlen hf hroom⟩
           · cases h
         · cases h
       · split at h
         · rename_i t l0 _ l hcast
           obtain ⟨e, hcast⟩ := castL_some hcast
           subst e
           subst hcast
           split at h
           · rename_i hroom
             exact ⟨_, h, ap_oc hs hds ht2 hd2 hte rfl hn hlen hf hroom⟩
           · cases h
         · cases h
       · split at h
         · rename_i t l0 _ l hcast
           obtain ⟨e, hcast⟩ := castL_some hcast
           subst e
           subst hcast
           split at h
           · rename_i hroom
             exact ⟨_, h, ap_oc hs.capOc hds ht2 hd2 hte rfl hn hlen hf hroom⟩
           · cases h
         · cases h
       · cases h
     · cases h
   · cases h
 · cases h
theorem appendK_sound {cx : Cx} (hcx : CxOk P X cx) {st t2 ty : TypeId} {x y : D} {k : D → Option R} {r : R} (h : appendK cx st x y k = some r) {g env vals sto} {vx vy : Value}
 (hs : Sim X g w (env ++ [x]) (vals ++ [vx]) sto) (hy : RepV X g.φ g.G w y vy) {d2 : TypeDesc} (ht2 : P.underlying t2 = some d2) (hd2 : (∃ e2, d2 = .slice e2) ∨ d2 = .string) :
 ∃ d, k d = some r ∧ ApOk P X w g env vals sto st t2 ty vx vy d := appendK_soundT hcx h hs (fun h => tail_sound h hy) ht2 hd2
end
end Go.Ev
namespace Go.Ev
section
variable {P : Program} {X : Cfg} {R : Type} {φ : List Nat} {G : Nat → Nat} {w : World}
theorem boundK_sound {x : D} {m : Nat} {k : Nat → Option R} {r : R} (h : boundK x m k = some r) {vx : Value} (hx : RepV X φ G w x vx) {hi : Nat} (hm : m ≤ hi) (code : BoundsCode) :
 ∃ n, k n = some r ∧ n ≤ m ∧ (Instr.sliceBound vx hi code).run P w = .ok n w := by
 unfold boundK at h
 split at h
 · rename_i kd n
   split at h
   · rename_i hb
     have hb0 := of_decide_eq_true hb
     obtain ⟨rfl, _⟩ := rep_int hx
     refine ⟨n.toNat, h, by omega, ?_⟩
     have h1 : 0 ≤ n ∧ n ≤ (hi : Int) := ⟨hb0.1, by omega⟩
     simp [Instr.sliceBound, asIntOf, h1]
   · cases h
 · cases h
theorem ofList_extract (s : List UInt8) (l h : Nat) : (⟨s.toArray⟩ : ByteArray).extract l h = ⟨((s.take h).drop l).toArray⟩ := by
 apply ByteArray.ext
 rw [ByteArray.data_extract]
 apply Array.ext'
 simp [List.drop_take]
def vOpt (a : Act) (x : Option Operand) : Option Value := x.map a.eval
theorem optK_sound {g : Gh} {env sto} {a : Act} (hs : Sim X g w env a.tmps.toList sto) {x : Option Operand} {d m : Nat} {k : Nat → Option R} {r : R}
 (h : optK (x.map (rd env)) d m k = some r) : (x = none ∧ k d = some r) ∨ ∃ y, x = some y ∧ boundK (rd env y) m k = some r := by
 cases x with
 | none => exact .inl ⟨rfl, h⟩
 | some y => exact .inr ⟨y, rfl, h⟩
theorem bounds_sound {g : Gh} {env sto} {a : Act} (hs : Sim X g w env a.tmps.toList sto) {lo hi : Option Operand} {len cap : Nat} (hlc : len ≤ cap) {isS : Bool} {k : Nat → Nat → Option R} {r : R}
 (h : (optK (hi.map (rd env)) len len fun h => optK (lo.map (rd env)) 0 h fun l => k h l) = some r) :
 ∃ hh l, k hh l = some r ∧ l ≤ hh ∧ hh ≤ len ∧ (Instr.sliceBounds isS len cap (lo.map a.eval) (hi.map a.eval) none).run P w = .ok (l, hh, cap) w := by
 have step : ∀ hh, hh ≤ len → (optK (lo.map (rd env)) 0 hh fun l => k hh l) = some r →
  ∃ l, k hh l = some r ∧ l ≤ hh ∧ ((match lo.map a.eval with | some v => Instr.sliceBound v hh .sliceB | none => pure 0 : Sem Nat)).run P w = .ok l w := by
  intro hh _ h2
  rcases optK_sound hs h2 with ⟨rfl, h2'⟩ | ⟨y, rfl, h2'⟩
  · exact ⟨0, h2', by omega, rfl⟩
  · obtain ⟨n, h3, h4, h5⟩ := boundK_sound (P := P) h2' (hs.read y) (Nat.le_refl hh) .sliceB
    exact ⟨n, h3, h4, h5⟩
 rcases optK_sound hs h with ⟨rfl, h'⟩ | ⟨y, rfl, h'⟩
 · obtain ⟨l, h1, h2, h3⟩ := step len (Nat.le_refl _) h'
   refine ⟨len, l, h1, h2, Nat.le_refl _, ?_⟩
   cases lo <;> simp [Instr.sliceBounds] at h3 ⊢
   · exact h3
   · simp [h3]
 · obtain ⟨hh, h1, h2, h3⟩ := boundK_sound (P := P) h' (hs.read y) hlc (if isS then .sliceAcap else .sliceAlen)
   obtain ⟨l, h4, h5, h6⟩ := step hh h2 h1
   refine ⟨hh, l, h4, h5, h2, ?_⟩
   cases isS <;> cases lo <;> simp [Instr.sliceBounds] at h3 h6 ⊢ <;> simp [h3, h6]
theorem rep_sub {m m' : Md} {t : Ty} {l : List t.den} {b off cap lo hh : Nat} (h : RepV X φ G w (.sl m t l) (.slice (some ⟨b, off, none⟩) l.length cap)) (hlo : lo ≤ hh) (hhi : hh ≤ l.length) (hm0 : m' ≠ .own ∧ m' ≠ .oc)
 {cap' : Nat} (hcap' : cap' ≤ cap - lo) (hc1 : hh - lo ≤ cap') (hm : m' = .cap → cap' = hh - lo) :
 RepV X φ G w (.sl m' t ((l.take hh).drop lo)) (.slice (some ⟨b, off + lo * t.size, none⟩) (hh - lo) cap') := by
 rcases rep_slice_inv h with ⟨_, h0, _⟩ | ⟨rfl, _, _, _, _, hmax⟩ | ⟨b', off', vs, h0, _, hlen, hcap, hmax, hp, hc, hr⟩
 · cases h0
 · obtain rfl : hh = 0 := by simpa using hhi
   obtain rfl : lo = 0 := by omega
   simpa using RepV.slE (X := X) (φ := φ) (G := G) (w := w) (t := t) (p := ⟨b, off, none⟩) (cap := cap') hm0.1 (fun e => e.elim (fun e => by simpa using hm e) (fun e => absurd e hm0.2)) (by omega)
 cases h0
 have hl : ((l.take hh).drop lo).length = hh - lo := by simp; omega
 have hmul : (hh - lo) * t.size + lo * t.size ≤ l.length * t.size := by
  rw [← Nat.add_mul]; exact Nat.mul_le_mul_right _ (by omega)
 have := RepV.sl (X := X) (φ := φ) (G := G) (w := w) (m := m') (t := t) (l := (l.take hh).drop lo) (b := b) (off := off + lo * t.size) (cap := cap') (fun j => vs (lo * t.size + j))
  (by omega) (fun e => by rw [hl]; exact hm e) (by omega) (by rw [hl]; omega) (fun j hj => by rw [hl] at hj; rw [Nat.add_assoc]; exact hc _ (by omega))
  (fun i x hx j c hj => by
   have hil := (List.getElem?_eq_some_iff.1 hx).1
   rw [hl] at hil
   rw [List.getElem?_drop, List.getElem?_take] at hx
   rw [if_pos (by omega)] at hx
   have := hr (lo + i) x hx j c hj
   rw [Nat.add_mul, Nat.add_assoc] at this
   exact this)
 rw [hl] at this
 exact this
theorem desc_slice {cx : Cx} (hcx : CxOk P X cx) {t : TypeId} {te : TE} {e : TypeId} (h : look cx.tab t = some te) (hd : te.d = .slice e) : P.underlying t = some (.slice e) := by
 obtain ⟨d, h1, h2⟩ := desc_int hcx h
 rw [hd] at h2
 cases d <;> first | (have := Nat.eq_of_beq_eq_true h2; subst this; exact h1) | cases h2
theorem desc_str {cx : Cx} (hcx : CxOk P X cx) {t : TypeId} {te : TE} (h : look cx.tab t = some te) (hd : te.d = .str) : P.underlying t = some .string := by
 obtain ⟨d, h1, h2⟩ := desc_int hcx h
 rw [hd] at h2
 cases d <;> first | exact h1 | cases h2
theorem desc_kind {cx : Cx} (hcx : CxOk P X cx) {t : TypeId} {te : TE} {k : IntKind} (h : look cx.tab t = some te) (hd : te.d = .int k) : P.underlying t = some (.int k) := by
 obtain ⟨d, h1, h2⟩ := desc_int hcx h
 rw [hd] at h2
 cases d <;> first | (have := of_decide_eq_true h2; subst this; exact h1) | cases h2
theorem conc_ok {cx : Cx} (hcx : CxOk P X cx) {t : TypeId} (h : concB cx t = true) : P.concrete t = true := by
 unfold concB at h
 split at h
 · rename_i e he
   obtain ⟨d, h1, h2⟩ := desc_int hcx he
   unfold Program.concrete
   rw [h1]
   cases hd : e.d <;> rw [hd] at h h2 <;> cases d <;> first | rfl | (cases h2; done) | (cases h; done)
 · cases h
theorem desc_array {cx : Cx} (hcx : CxOk P X cx) {t : TypeId} {te : TE} {n : Nat} {e : TypeId} (h : look cx.tab t = some te) (hd : te.d = .array n e) : P.underlying t = some (.array n e) := by
 obtain ⟨d, h1, h2⟩ := desc_int hcx h
 rw [hd] at h2
 cases d <;> first | cases h2; done | skip
 simp only [descB, Bool.and_eq_true] at h2
 rw [Nat.eq_of_beq_eq_true h2.1, Nat.eq_of_beq_eq_true h2.2]; exact h1
theorem desc_struct {cx : Cx} (hcx : CxOk P X cx) {t : TypeId} {te : TE} {fs : List FI} (h : look cx.tab t = some te) (hd : te.d = .struct fs) : ∃ F, P.underlying t = some (.struct F) ∧ fieldsB P fs F.toList = true := by
 obtain ⟨d, h1, h2⟩ := desc_int hcx h
 rw [hd] at h2
 cases d <;> first | cases h2; done | exact ⟨_, h1, h2⟩
theorem tyOk_str {cx : Cx} (hcx : CxOk P X cx) {t : TypeId} {s : List UInt8} (h : tyOk cx t (.str s) = true) : P.underlying t = some .string := by
 unfold tyOk at h
 cases hl : look cx.tab t with
 | none => rw [hl] at h; cases h
 | some te =>
  rw [hl] at h
  cases te with
  | mk d _ _ _ _ _ => cases d <;> first | exact desc_str hcx hl rfl | cases h
theorem tyOk_nils {cx : Cx} (hcx : CxOk P X cx) {t : TypeId} (h : tyOk cx t .nils = true) : ∃ e te, P.underlying t = some (.slice e) ∧ TEok P e te := by
 unfold tyOk at h
 cases hl : look cx.tab t with
 | none => rw [hl] at h; cases h
 | some te0 =>
  rw [hl] at h
  cases te0 with
  | mk d _ _ _ _ _ =>
   cases d with
   | slice e =>
    simp only at h
    cases h2 : look cx.tab e with
    | none => rw [h2] at h; cases h
    | some te => exact ⟨e, te, desc_slice hcx hl rfl, hcx.tab _ _ h2⟩
   | _ => cases h
theorem tyOk_sl {cx : Cx} (hcx : CxOk P X cx) {t : TypeId} {m : Md} {ty : Ty} {l : List ty.den} (h : tyOk cx t (.sl m ty l) = true) :
 ∃ e te, P.underlying t = some (.slice e) ∧ look cx.tab e = some te ∧ TEok P e te ∧ te.size = ty.size := by
 unfold tyOk at h
 cases hl : look cx.tab t with
 | none => rw [hl] at h; cases h
 | some te0 =>
  rw [hl] at h
  cases te0 with
  | mk d _ _ _ _ _ =>
   cases d with
   | slice e =>
    simp only at h
    cases h2 : look cx.tab e with
    | none => rw [h2] at h; cases h
    | some te => rw [h2] at h; exact ⟨e, te, desc_slice hcx hl rfl, h2, hcx.tab _ _ h2, Nat.eq_of_beq_eq_true h⟩
   | _ => cases h
theorem run_sizeOf' {t : TypeId} {te : TE} (h : TEok P t te) (w : World) : (sizeOf t).run P w = .ok te.size w := by
 obtain ⟨i, z, hi, hs, _⟩ := h.info
 simp [sizeOf, typeInfo, hi, hs]
theorem rep_cut {m m' : Md} {t : Ty} {l : List t.den} {ao : Option Addr} {cap lo hh : Nat} (h : RepV X φ G w (.sl m t l) (.slice ao l.length cap)) (hlo : lo ≤ hh) (hhi : hh ≤ l.length) (hm0 : m' ≠ .own ∧ m' ≠ .oc) (hmn : m' ≠ .nn)
 {c : Nat} (hcc : c ≤ cap) (hc1 : hh - lo ≤ c - lo) (hm : m' = .cap → c - lo = hh - lo) :
 RepV X φ G w (.sl m' t ((l.take hh).drop lo)) (.slice (if c = lo then ao else ao.map (·.add (lo * t.size))) (hh - lo) (c - lo)) := by
 have hl : ((l.take hh).drop lo).length = hh - lo := by simp; omega
 rcases rep_slice_inv h with ⟨e0, e1, _, e2, _⟩ | ⟨e0, ⟨p, e1⟩, _, _, _, hmax⟩ | ⟨b, off, vs, e1, _, hlen, hcap, hmax, hp, hc, hr⟩
 · subst e0; subst e1; subst e2
   obtain rfl : hh = 0 := by simpa using hhi
   obtain rfl : lo = 0 := by omega
   obtain rfl : c = 0 := by omega
   simp
   exact .slNil hmn
 · subst e0; subst e1
   obtain rfl : hh = 0 := by simpa using hhi
   obtain rfl : lo = 0 := by omega
   have fin : ∀ q : Addr, RepV X φ G w (.sl m' t []) (.slice (some q) 0 c) := fun q => .slE hm0.1 (fun e => e.elim (fun e => by simpa using hm e) (fun e => absurd e hm0.2)) (by omega)
   by_cases e : c = 0
   · simpa [e] using (e ▸ fin p : RepV X φ G w (.sl m' t []) (.slice (some p) 0 0))
   · simpa [e] using fin (p.add 0)
 · subst e1
   by_cases e : c = lo
   · subst e
     have e2 : hh = c := by omega
     subst e2
     have e3 : (l.take hh).drop hh = [] := List.eq_nil_of_length_eq_zero (by rw [hl]; omega)
     rw [e3, if_pos rfl, Nat.sub_self]
     have := RepV.sl (X := X) (φ := φ) (G := G) (w := w) (m := m') (t := t) (l := []) (b := b) (off := off) (cap := 0) vs (by simp) (fun _ => rfl) (by omega) (by simp; omega) (fun j hj => by simp at hj) (fun i x hx => by simp at hx)
     exact this
   · rw [if_neg e, Option.map_some, Addr.add_mid]
     exact rep_sub h hlo hhi hm0 (by omega) hc1 hm
theorem op_slice {g : Gh} {env : List D} {sto : Sto} {o : Oper} {a : Act} {k : St → Option R} {r : R} {cx : Cx} (hcx : CxOk P X cx) (t : TypeId) (x : Operand) (lo hi mx : Option Operand) (ho : o.op = .slice t x lo hi mx)
 (hs : Sim X g w env a.tmps.toList sto) (hty : tyOk cx t (rd env x) = true)
 (h : (sliceK (rd env x) (lo.map (rd env)) (hi.map (rd env)) (mx.map (rd env)) fun d => k ⟨put env o.dst d, sto⟩) = some r) : OpOk P X o a w g k r := by
 have hx := hs.read x
 generalize hdx : rd env x = dx at h hx hty
 generalize hvx : a.eval x = vx at hx
 unfold sliceK at h
 split at h
 · rename_i s
   obtain ⟨rfl, hsl⟩ := rep_str hx
   have hu := tyOk_str hcx hty
   cases mx with
   | some m => simp at h
   | none =>
    simp only [Option.map_none] at h
    obtain ⟨hh, l, h1, h2, h3, h4⟩ := bounds_sound (P := P) (isS := false) hs (Nat.le_refl s.length) h
    refine opOk_pure hs (.string ⟨((s.take hh).drop l).toArray⟩) _ ?_ (.str _ ?_) rfl h1
    · have hsz : (⟨s.toArray⟩ : ByteArray).size = s.length := rfl
      simp [execOp, ho, Instr.sliceAt, run_underlying hu, hvx, Instr.slice, hsz, h4, ofList_extract]
    · show ((s.take hh).drop l).length ≤ _
      simp; omega
 · cases hx
   obtain ⟨e, te, hu, hte⟩ := tyOk_nils hcx hty
   cases mx with
   | some m => simp at h
   | none =>
    simp only [Option.map_none] at h
    obtain ⟨hh, l, h1, h2, h3, h4⟩ := bounds_sound (P := P) (isS := true) hs (Nat.le_refl 0) h
    obtain rfl : hh = 0 := by omega
    obtain rfl : l = 0 := by omega
    refine opOk_pure hs (.slice none 0 0) _ ?_ .nils rfl h1
    simp [execOp, ho, Instr.sliceAt, run_underlying hu, hvx, Instr.slice, h4, run_sizeOf' hte]
 · rename_i m ty l
   obtain ⟨e, te, hu, _, hte, hts⟩ := tyOk_sl hcx hty
   obtain ⟨ao, cap, rfl⟩ := rep_slice_form hx
   have hsz := run_sizeOf' hte w
   rw [hts] at hsz
   have hlc : l.length ≤ cap := by
    rcases rep_slice_inv hx with ⟨e0, _, _, e2, _⟩ | ⟨e0, _⟩ | ⟨b, off, vs, e1, _, hlc, _⟩
    · subst e0; simp
    · subst e0; simp
    · exact hlc
   split at h
   · rename_i hm
     obtain rfl : mx = none := by cases mx <;> first | rfl | cases hm
     obtain ⟨hh, lw, h1, h2, h3, h4⟩ := bounds_sound (P := P) (isS := true) hs hlc h
     have hrun : (execOp a.eval o).run P w = .ok (.value (.slice (if cap = lw then ao else ao.map (·.add (lw * ty.size))) (hh - lw) (cap - lw))) w := by
      simp [execOp, ho, Instr.sliceAt, run_underlying hu, hvx, Instr.slice, h4, hsz]
     refine opOk_pure hs _ _ hrun ?_ rfl h1
     exact rep_cut hx h2 h3 (by decide) (by decide) (Nat.le_refl _) (by omega) (by intro h; cases h)
   · rename_i km mv hm
     split at h
     · rename_i kh hv hhi
       split at h
       · rename_i heq
         have heq := of_decide_eq_true heq
         subst heq
         obtain ⟨ym, rfl, hym⟩ : ∃ ym, mx = some ym ∧ rd env ym = .int km hv := by
          cases mx with
          | none => cases hm
          | some ym => exact ⟨ym, rfl, Option.some.inj hm⟩
         obtain ⟨yh, rfl, hyh⟩ : ∃ yh, hi = some yh ∧ rd env yh = .int kh hv := by
          cases hi with
          | none => cases hhi
          | some yh => exact ⟨yh, rfl, Option.some.inj hhi⟩
         obtain ⟨hvm, _⟩ := rep_int (hym ▸ hs.read ym)
         obtain ⟨hvh, _⟩ := rep_int (hyh ▸ hs.read yh)
         unfold boundK at h
         simp only at h
         split at h
         · rename_i hb
           have hb := of_decide_eq_true hb
           have hbm : (Instr.sliceBound (.int km hv) cap .slice3Acap).run P w = .ok hv.toNat w := by
            have : 0 ≤ hv ∧ hv ≤ (cap : Int) := ⟨hb.1, by omega⟩
            simp [Instr.sliceBound, asIntOf, this]
           have hbh : (Instr.sliceBound (.int kh hv) hv.toNat .slice3B).run P w = .ok hv.toNat w := by
            have : 0 ≤ hv ∧ hv ≤ (hv.toNat : Int) := ⟨hb.1, by omega⟩
            unfold Instr.sliceBound
            simp only [asIntOf, Sem.run_bind, Sem.run_pure, Result.andThen_ok, if_pos this]
           obtain ⟨lw, hkl, hll, hrl⟩ : ∃ lw, k ⟨put env o.dst (.sl .cap ty ((l.take hv.toNat).drop lw)), sto⟩ = some r ∧ lw ≤ hv.toNat ∧
            ((match lo.map a.eval with | some v => Instr.sliceBound v hv.toNat .slice3C | none => pure 0 : Sem Nat)).run P w = .ok lw w := by
            rcases optK_sound hs h with ⟨rfl, h'⟩ | ⟨y, rfl, h'⟩
            · exact ⟨0, h', by omega, rfl⟩
            · obtain ⟨n, h3, h4, h5⟩ := boundK_sound (P := P) h' (hs.read y) (Nat.le_refl _) .slice3C
              exact ⟨n, h3, h4, h5⟩
           have hbnd : (Instr.sliceBounds true l.length cap (lo.map a.eval) (some (.int kh hv)) (some (.int km hv))).run P w = .ok (lw, hv.toNat, hv.toNat) w := by
            cases lo <;> simp [Instr.sliceBounds, hbm, hbh] at hrl ⊢ <;> simp [hrl]
           have hrun : (execOp a.eval o).run P w = .ok (.value (.slice (if hv.toNat = lw then ao else ao.map (·.add (lw * ty.size))) (hv.toNat - lw) (hv.toNat - lw))) w := by
            simp [execOp, ho, Instr.sliceAt, run_underlying hu, hvx, Instr.slice, hvm, hvh, hbnd, hsz]
           refine opOk_pure hs _ _ hrun ?_ rfl hkl
           exact rep_cut hx hll (by omega) (by decide) (by decide) (by omega) (Nat.le_refl _) (fun _ => rfl)
         · cases h
       · cases h
     · cases h
   · cases h
 · cases h
end
end Go.Ev
namespace Go.Ev
section
variable {P : Program} {X : Cfg} {R : Type} {w : World}
variable {g : Gh} {env : List D} {sto : Sto} {o : Oper} {a : Act} {k : St → Option R} {r : R} {cx : Cx}
theorem field_get {fs : List FI} {F : Array Field} (h : fieldsB P fs F.toList = true) {f : Nat} {fi : FI} (hf : fs[f]? = some fi) :
 ∃ fl, F[f]? = some fl ∧ fl.offset = fi.off ∧ (∀ w, (sizeOf fl.type).run P w = .ok fi.size w) ∧ (∃ d, P.underlying fl.type = some d ∧ isAggB d = fi.agg) ∧ (fi.agg = false → fi.size = 1) := by
 obtain ⟨fl, h1, h2⟩ := fieldsB_get h f fi hf
 unfold fieldB at h2
 rw [Bool.and_eq_true] at h2
 obtain ⟨h3, h4⟩ := h2
 split at h4
 · rename_i i d hi hd
   simp only [Bool.and_eq_true] at h4
   obtain ⟨⟨h5, h6⟩, h7⟩ := h4
   refine ⟨fl, by simpa using h1, Nat.eq_of_beq_eq_true h3, fun w => ?_, ⟨d, hd, by simpa using h6⟩, fun ha => ?_⟩
   · simp [sizeOf, typeInfo, hi, Nat.eq_of_beq_eq_true h5]
   · rw [ha] at h7; exact Nat.eq_of_beq_eq_true (by simpa using h7)
 · cases h4
theorem rep_box_drop {φ G} {cs : List D} {b off n : Nat} (h : RepV X φ G w (.box cs) (.pointer (some ⟨b, off, none⟩))) (hn : n ≤ cs.length) : RepV X φ G w (.box (cs.drop n)) (.pointer (some ⟨b, off + n, none⟩)) := by
 obtain ⟨b', off', vs, hv, hp, hc, hcl, hr⟩ := rep_box h
 cases hv
 refine .box (fun j => vs (n + j)) (by simp; omega) (fun j hj => by simp at hj; rw [Nat.add_assoc]; exact hc _ (by omega)) (fun j c hj => ?_) (fun j c hj => ?_)
 · rw [List.getElem?_drop] at hj; exact hcl _ c hj
 · rw [List.getElem?_drop] at hj; exact hr _ c hj
theorem op_fieldAddr (hcx : CxOk P X cx) (t : TypeId) (x : Operand) (f : Nat) (ho : o.op = .fieldAddr t x f) (hs : Sim X g w env a.tmps.toList sto) {te : TE} {fs : List FI} {fi : FI}
 (ht : look cx.tab t = some te) (hd : te.d = .struct fs) (hf : fs[f]? = some fi) (hz : fi.size ≠ 0)
 (h : (∃ i off, rd env x = .ptr i off ∧ k ⟨put env o.dst (.ptr i (off + fi.off)), sto⟩ = some r) ∨
  (∃ cs, rd env x = .box cs ∧ fi.off ≤ cs.length ∧ k ⟨put env o.dst (.box (cs.drop fi.off)), sto⟩ = some r)) : OpOk P X o a w g k r := by
 obtain ⟨F, hu, hF⟩ := desc_struct hcx ht hd
 obtain ⟨fl, h1, h2, h3, _⟩ := field_get hF hf
 have hx := hs.read x
 rcases h with ⟨i, off, he, hk⟩ | ⟨cs, he, hle, hk⟩
 · rw [he] at hx
   obtain ⟨b, hb, hv⟩ := rep_ptr hx
   refine opOk_pure hs (.pointer (some ⟨b, off + fi.off, none⟩)) _ ?_ (.ptr hb) rfl hk
   simp [execOp, ho, hv, Instr.fieldAt, run_underlying hu, h1, Instr.sureAddr, fieldPlace, h3, hz, h2, Addr.add_mid]
 · rw [he] at hx
   obtain ⟨b, off, vs, hv, _⟩ := rep_box hx
   rw [hv] at hx
   refine opOk_pure hs (.pointer (some ⟨b, off + fi.off, none⟩)) _ ?_ (rep_box_drop hx hle) rfl hk
   simp [execOp, ho, hv, Instr.fieldAt, run_underlying hu, h1, Instr.sureAddr, fieldPlace, h3, hz, h2, Addr.add_mid]
theorem part_sound {φ G} {t : TypeId} {sz : Nat} {ag : Bool} (hsz : ∀ w, (sizeOf t).run P w = .ok sz w) (hag : ∃ d, P.underlying t = some d ∧ isAggB d = ag) (h1 : ag = false → sz = 1)
 {cs : List D} {vs : Array Value} (h : RepV X φ G w (.agg cs) (.agg vs)) {off : Nat} (hle : off + sz ≤ cs.length) :
 ∃ v, (part t vs off).run P w = .ok v w ∧ RepV X φ G w (ofCells ag (((cs.drop off).take sz).map D.dup1)) v := by
 obtain ⟨d, hd, hda⟩ := hag
 cases h with
 | agg hl hr =>
  have hrun := run_isAgg (P := P) hd w
  rw [hda] at hrun
  cases ag with
  | true =>
   refine ⟨.agg (vs.extract off (off + sz)), by simp [part, hrun, hsz], .agg (by simp; omega) (fun j c hj => ?_)⟩
   simp only [List.getElem?_map, Option.map_eq_some_iff] at hj
   obtain ⟨c0, h0, rfl⟩ := hj
   have hjs : j < sz := by have := (List.getElem?_eq_some_iff.1 h0).1; simp at this; omega
   rw [List.getElem?_take, if_pos hjs, List.getElem?_drop] at h0
   have := hr _ _ h0
   have e : (vs.extract off (off + sz)).getD j undef = vs.getD (off + j) undef := by
    simp only [Array.getD_eq_getD_getElem?]
    congr 1
    rw [Array.getElem?_extract]
    simp; omega
   rw [e]; exact this.dup1
  | false =>
   have := h1 rfl
   subst this
   have hlt : off < vs.size := by omega
   refine ⟨vs[off], by simp [part, hrun, hlt], ?_⟩
   have hc : cs[off]? = some (cs[off]'(by omega)) := List.getElem?_eq_getElem (by omega)
   have hd1 : (cs.drop off).take 1 = [cs[off]'(by omega)] := by
    apply List.ext_getElem?
    intro j
    rw [List.getElem?_take, List.getElem?_drop]
    cases j with
    | zero => simp [hc]
    | succ j => simp
   rw [hd1]
   have := hr off _ hc
   simp only [Array.getD_eq_getD_getElem?, hlt, Array.getElem?_eq_getElem, Option.getD_some] at this
   exact this.dup1.dup
theorem op_field (hcx : CxOk P X cx) (t : TypeId) (x : Operand) (f : Nat) (ho : o.op = .field t x f) (hs : Sim X g w env a.tmps.toList sto) {te : TE} {fs : List FI} {fi : FI} {cs : List D}
 (ht : look cx.tab t = some te) (hd : te.d = .struct fs) (hf : fs[f]? = some fi) (he : rd env x = .agg cs) (hle : fi.off + fi.size ≤ cs.length)
 (hk : k ⟨put env o.dst (ofCells fi.agg (((cs.drop fi.off).take fi.size).map D.dup1)), sto⟩ = some r) : OpOk P X o a w g k r := by
 obtain ⟨F, hu, hF⟩ := desc_struct hcx ht hd
 obtain ⟨fl, h1, h2, h3, h4, h5⟩ := field_get hF hf
 have hx := hs.read x
 rw [he] at hx
 obtain ⟨vs, hv⟩ := rep_agg hx _ rfl
 rw [hv] at hx
 obtain ⟨v, hrun, hr⟩ := part_sound h3 h4 h5 hx hle
 exact opOk_pure hs v _ (by simp [execOp, ho, hv, Instr.field, run_underlying hu, h1, asAgg, h2, hrun]) hr (ofCells_free _ _) hk
theorem nth_spec {α : Type} {l : List α} {n : Int} {x : α} (h : nth l n = some x) : 0 ≤ n ∧ n < (l.length : Int) ∧ l[n.toNat]? = some x := by
 unfold nth at h
 split at h
 · rename_i hn
   have := (List.getElem?_eq_some_iff.1 h).1
   exact ⟨hn, by omega, h⟩
 · cases h
theorem op_indexSl (hcx : CxOk P X cx) (t : TypeId) (x ix : Operand) (ho : o.op = .indexAddr t x ix) (hs : Sim X g w env a.tmps.toList sto) {m : Md} {ty : Ty} {l : List ty.den} {kd : IntKind} {n : Int} {e : ty.den}
 (hx : rd env x = .sl m ty l) (hty : tyOk cx t (.sl m ty l) = true) (hi : rd env ix = .int kd n) (hn : nth l n = some e)
 (hk : k ⟨put env o.dst (.box (cells ty e)), sto⟩ = some r) : OpOk P X o a w g k r := by
 obtain ⟨el, te, hu, _, hte, hts⟩ := tyOk_sl hcx hty
 obtain ⟨h0, h1, h2⟩ := nth_spec hn
 have hrx := hs.read x
 rw [hx] at hrx
 generalize hvx : a.eval x = vx at hrx
 obtain ⟨ao, cap, rfl⟩ := rep_slice_form hrx
 obtain ⟨hvi, _⟩ := rep_int (hi ▸ hs.read ix)
 rcases rep_slice_inv hrx with ⟨e0, _⟩ | ⟨e0, _⟩ | ⟨b, off, vs, e1, _, hlen, _, hmax, hp, hc, hr⟩
 · subst e0; simp at h2
 · subst e0; simp at h2
 · subst e1
   have hil : n.toNat < l.length := by omega
   refine opOk_pure hs (.pointer (some ⟨b, off + n.toNat * ty.size, none⟩)) _ ?_ ?_ rfl hk
   · simp [execOp, ho, hvx, hvi, Instr.indexAt, asIntOf, run_underlying hu, h0, h1, run_sizeOf' hte, hts, Addr.add_mid]
   · have hcl := cells_length ty e
     have hmul : n.toNat * ty.size + ty.size ≤ l.length * ty.size := by
      rw [← Nat.succ_mul]; exact Nat.mul_le_mul_right _ hil
     refine .box (fun j => vs (n.toNat * ty.size + j)) (by rw [hcl]; omega) (fun j hj => by rw [hcl] at hj; rw [Nat.add_assoc]; exact hc _ (by omega)) (fun j c hj => cells_closed _ _ _ _ hj)
      (fun j c hj => hr _ _ h2 j c hj)
theorem op_indexArr (hcx : CxOk P X cx) (t : TypeId) (x ix : Operand) (ho : o.op = .indexAddr t x ix) (hs : Sim X g w env a.tmps.toList sto) {te0 te : TE} {len : Nat} {e : TypeId} {i off : Nat} {kd : IntKind} {n : Int}
 (ht : look cx.tab t = some te0) (hd : te0.d = .array len e) (hte : look cx.tab e = some te) (hx : rd env x = .ptr i off) (hi : rd env ix = .int kd n) (hn : 0 ≤ n ∧ n < (len : Int))
 (hk : k ⟨put env o.dst (.ptr i (off + n.toNat * te.size)), sto⟩ = some r) : OpOk P X o a w g k r := by
 have hu := desc_array hcx ht hd
 obtain ⟨b, hb, hv⟩ := rep_ptr (hx ▸ hs.read x)
 obtain ⟨hvi, _⟩ := rep_int (hi ▸ hs.read ix)
 refine opOk_pure hs (.pointer (some ⟨b, off + n.toNat * te.size, none⟩)) _ ?_ (.ptr hb) rfl hk
 simp [execOp, ho, hv, hvi, Instr.indexAt, asIntOf, run_underlying hu, Instr.sureAddr, hn.1, hn.2, run_sizeOf' (hcx.tab _ _ hte), Addr.add_mid]
theorem op_indexStr (hcx : CxOk P X cx) (t : TypeId) (x ix : Operand) (ho : o.op = .index t x ix) (hs : Sim X g w env a.tmps.toList sto) {te : TE} {s : List UInt8} {kd : IntKind} {n : Int} {b : UInt8}
 (ht : look cx.tab t = some te) (hd : te.d = .str) (hx : rd env x = .str s) (hi : rd env ix = .int kd n) (hn : nth s n = some b)
 (hk : k ⟨put env o.dst (.int .u8 (b.toNat : Int)), sto⟩ = some r) : OpOk P X o a w g k r := by
 have hu := desc_str hcx ht hd
 obtain ⟨hv, _⟩ := rep_str (hx ▸ hs.read x)
 obtain ⟨hvi, _⟩ := rep_int (hi ▸ hs.read ix)
 obtain ⟨h0, h1, h2⟩ := nth_spec hn
 have hbt := b.toNat_lt
 refine opOk_pure hs (.int .u8 (b.toNat : Int)) _ ?_ (.int (by simp only [InR, lo, Ev.hi]; omega)) rfl hk
 have e : (⟨s.toArray⟩ : ByteArray)[n.toNat]? = some b := by
  have hlt : n.toNat < s.length := (List.getElem?_eq_some_iff.1 h2).1
  have : s[n.toNat] = b := (List.getElem?_eq_some_iff.1 h2).2
  rw [getElem?_pos _ _ (by exact hlt)]
  congr 1
 simp [execOp, ho, hv, hvi, Instr.index, asIntOf, run_underlying hu, h0, e]
theorem op_indexAgg (hcx : CxOk P X cx) (t : TypeId) (x ix : Operand) (ho : o.op = .index t x ix) (hs : Sim X g w env a.tmps.toList sto) {te0 te : TE} {len : Nat} {e : TypeId} {cs : List D} {kd : IntKind} {n : Int}
 (ht : look cx.tab t = some te0) (hd : te0.d = .array len e) (hte : look cx.tab e = some te) (hx : rd env x = .agg cs) (hi : rd env ix = .int kd n) (hn : 0 ≤ n ∧ n < (len : Int))
 (hle : n.toNat * te.size + te.size ≤ cs.length)
 (hk : k ⟨put env o.dst (ofCells te.agg (((cs.drop (n.toNat * te.size)).take te.size).map D.dup1)), sto⟩ = some r) : OpOk P X o a w g k r := by
 have hu := desc_array hcx ht hd
 have hr := hs.read x
 rw [hx] at hr
 obtain ⟨vs, hv⟩ := rep_agg hr _ rfl
 rw [hv] at hr
 obtain ⟨hvi, _⟩ := rep_int (hi ▸ hs.read ix)
 have hteo := hcx.tab _ _ hte
 obtain ⟨d, hdd, hda, _⟩ := hteo.desc
 obtain ⟨v, hrun, hrv⟩ := part_sound (run_sizeOf' hteo) ⟨d, hdd, hda⟩ hteo.one hr hle
 exact opOk_pure hs v _ (by simp [execOp, ho, hv, hvi, Instr.index, asIntOf, run_underlying hu, hn.1, hn.2, run_sizeOf' hteo, hrun]) hrv (ofCells_free _ _) hk
theorem op_len (hcx : CxOk P X cx) {x : Operand} {t : TypeId} (ho : o.op = .call { callee := .builtin .len, args := #[x], argTypes := #[t] }) (hs : Sim X g w env a.tmps.toList sto) {te : TE} (ht : look cx.tab t = some te) {n : Int}
 (h : (te.d = .str ∧ ∃ s, rd env x = .str s ∧ n = s.length) ∨ (∃ e, te.d = .slice e ∧ lenD (rd env x) = some n ∧ ∀ s, rd env x ≠ .str s) ∨ (∃ l e, te.d = .array l e ∧ n = (l : Int) ∧ l ≤ 9223372036854775807))
 (hk : k ⟨put env o.dst (.int .i64 n), sto⟩ = some r) : OpOk P X o a w g k r := by
 have hr := hs.read x
 rcases h with ⟨hd, s, hx, rfl⟩ | ⟨e, hd, hl, hns⟩ | ⟨l, e, hd, rfl, hle⟩
 · have hu := desc_str hcx ht hd
   rw [hx] at hr
   obtain ⟨hv, hsl⟩ := rep_str hr
   refine opOk_pure hs (.int .i64 s.length) _ ?_ (.int (by simp only [InR, lo, hi]; omega)) rfl hk
   have hsz : (⟨s.toArray⟩ : ByteArray).size = s.length := rfl
   simp [execOp, ho, resolve, invoke, builtin, Builtin.len_, run_underlying hu, hv, goInt, hsz]
 · have hu := desc_slice hcx ht hd
   generalize hdx : rd env x = dx at hr hl hns
   generalize hvx : a.eval x = vx at hr
   unfold lenD at hl
   split at hl
   · exact absurd rfl (hns _)
   · cases hl; cases hr
     refine opOk_pure hs (.int .i64 0) _ ?_ (.int (by simp [InR, lo, hi])) rfl hk
     simp [execOp, ho, resolve, invoke, builtin, Builtin.len_, run_underlying hu, hvx, goInt]
   · cases hl
     obtain ⟨ao, cap, rfl⟩ := rep_slice_form hr
     have hlen : ∀ {m ty} {l : List (Ty.den ty)}, RepV X g.φ g.G w (.sl m ty l) (.slice ao l.length cap) → l.length ≤ 9223372036854775807 := by
      intro m ty l h
      rcases rep_slice_inv h with ⟨e0, _⟩ | ⟨e0, _⟩ | ⟨b, off, vs, _, _, hlen, _, hmax, _⟩
      · subst e0; simp
      · subst e0; simp
      · omega
     have := hlen hr
     refine opOk_pure hs _ _ ?_ (.int (by simp only [InR, lo, hi]; omega)) rfl hk
     simp [execOp, ho, resolve, invoke, builtin, Builtin.len_, run_underlying hu, hvx, goInt]
   · cases hl
 · have hu := desc_array hcx ht hd
   refine opOk_pure hs (.int .i64 l) _ ?_ (.int (by simp only [InR, lo, hi]; omega)) rfl hk
   simp [execOp, ho, resolve, invoke, builtin, Builtin.len_, run_underlying hu, goInt]
theorem op_extract {x : Operand} {i : Nat} (ho : o.op = .extract x i) (hs : Sim X g w env a.tmps.toList sto) {cs : List D} {c : D} (hx : rd env x = .tup cs) (hc : cs[i]? = some c)
 (hlf : c.free = true ∨ c.leaf = true) (hk : k ⟨put (left env x) o.dst c, sto⟩ = some r) : OpOk P X o a w g k r := by
 obtain ⟨g1, h1, e1, _⟩ := hs.take x
 have hl : (left env x).length = a.tmps.toList.length := by have := h1.len; simpa using this
 rw [hx] at h1
 have hr := h1.rep (left env x).length (.tup cs) (a.eval x) (by simp) (by rw [hl]; simp)
 generalize hv : a.eval x = v at *
 cases hr with
 | tup hlen hcr =>
  rename_i vs
  have hci := hcr i c hc
  have hilt : i < vs.size := by rw [hlen]; exact (List.getElem?_eq_some_iff.1 hc).1
  have hrun : (execOp a.eval o).run P w = .ok (.value (vs.getD i undef)) w := by
   simp [execOp, ho, hv, Instr.extract, hilt]
  have hn : (left env x).length = a.tmps.toList.length := hl
  obtain ⟨g2, h2, e2⟩ : ∃ g2, Sim X g2 w (left env x ++ [c]) (a.tmps.toList ++ [vs.getD i undef]) sto ∧ Ext g1 w g2 w := by
   refine ⟨_, h1.re (fun ℓ => match ℓ with
    | .env t j => if t = (left env x).length ∧ j = i + 1 then .env (left env x).length 0 else .env t j
    | ℓ => ℓ) (fun _ => rfl) (by simp [hl]) ?_ ?_, .names _⟩
   · intro t d' u hd hu
     rcases getElem?_snoc hd with ⟨ht, hd⟩ | ⟨rfl, rfl⟩
     · rw [List.getElem?_append_left (hl ▸ ht)] at hu
       exact h1.rep t d' u (by rw [List.getElem?_append_left ht]; exact hd) (by rw [List.getElem?_append_left (hl ▸ ht)]; exact hu)
     · rw [hl] at hu; simp at hu; subst hu; rw [← Array.getD_eq_getD_getElem?]; exact hci
   · intro ℓ md ty l aa len cap hoc hmd
     cases ℓ with
     | env t j =>
      by_cases ht : t < (left env x).length
      · refine ⟨.env t j, by simp [Nat.ne_of_lt ht], hoc.shift ?_ ?_⟩
        · rw [List.getElem?_append_left ht, List.getElem?_append_left ht]
        · rw [List.getElem?_append_left (hl ▸ ht), List.getElem?_append_left (hl ▸ ht)]
      · have ht : t = (left env x).length := by have := hoc.lt; simp at this; omega
        subst ht
        generalize hℓ : Loc.env (left env x).length j = ℓ at hoc
        generalize hxx : D.sl md ty l = xx at hoc
        generalize hyy : Value.slice (some aa) len cap = yy at hoc
        cases hoc with
        | leaf hd hv' =>
         cases hℓ
         simp at hd; rw [hl] at hv'; simp at hv'
         subst hd; subst hxx; subst hv'
         refine ⟨.env (left env x).length (i + 1), by simp, ?_⟩
         exact .tup (cs := cs) (vs := vs) (by simp) (by rw [hl]; simp) hc (Array.getD_eq_getD_getElem? ..)
        | agg hd hv' hj' he =>
         cases hℓ; simp at hd; subst hd
         rcases hlf with hlf | hlf
         · have := free1_get hlf hj'; subst hxx; rw [(keeps_free1 hmd).1] at this; cases this
         · cases hlf
        | tup hd hv' hj' he =>
         cases hℓ; simp at hd; subst hd
         rcases hlf with hlf | hlf
         · have := free1_get hlf hj'; subst hxx; rw [(keeps_free1 hmd).1] at this; cases this
         · cases hlf
        | cell => cases hℓ
     | obj i => exact hoc.not_obj.elim
     | cell i' j => exact ⟨.cell i' j, rfl, hoc.of_slot (fun _ _ h => by cases h)⟩
  obtain ⟨g3, h3, e3, _⟩ := h2.lay o.dst
  exact ⟨_, w, g3, _, _, .inl hrun, hk, h3, e1.trans (e2.trans e3)⟩
theorem op_makeFuncB {f : FuncId} {first : Array Operand} (ho : o.op = .makeFunc (.func f) first #[]) (hs : Sim X g w env a.tmps.toList sto) (hb : X.b0.any (Nat.beq f) = true)
 (hk : k ⟨put env o.dst (.fn f (first.toList.map fun x => (rd env x).dup)), sto⟩ = some r) : OpOk P X o a w g k r := by
 refine opOk_pure hs (.func (.func f) (first.map a.eval) #[]) _ (by simp [execOp, ho, Instr.makeFunc]) (.fn (by simp) (.inr ⟨rfl, hb⟩) (fun j c hj => ?_)) rfl hk
 simp only [List.getElem?_map, Option.map_eq_some_iff] at hj
 obtain ⟨y, hy, rfl⟩ := hj
 have hy' : first[j]? = some y := by simpa using hy
 have := (hs.read y).dup
 have e : (first.map a.eval ++ #[]).getD j undef = a.eval y := by
  simp only [Array.append_empty, Array.getD_eq_getD_getElem?, Array.getElem?_map, hy']; rfl
 rw [e]; exact this
theorem op_makeFunc {f : FuncId} {caps : Array Operand} (ho : o.op = .makeFunc (.func f) #[] caps) (hs : Sim X g w env a.tmps.toList sto)
 (hk : k ⟨put env o.dst (.fn f (caps.toList.map fun x => (rd env x).dup)), sto⟩ = some r) : OpOk P X o a w g k r := by
 refine opOk_pure hs (.func (.func f) #[] (caps.map a.eval)) _ (by simp [execOp, ho, Instr.makeFunc]) (.fn (by simp) (.inl rfl) (fun j c hj => ?_)) rfl hk
 simp only [List.getElem?_map, Option.map_eq_some_iff] at hj
 obtain ⟨y, hy, rfl⟩ := hj
 have hy' : caps[j]? = some y := by simpa using hy
 have := (hs.read y).dup
 have e : (#[] ++ caps.map a.eval).getD j undef = a.eval y := by
  simp only [Array.empty_append, Array.getD_eq_getD_getElem?, Array.getElem?_map, hy']; rfl
 rw [e]; exact this
end
end Go.Ev
namespace Go.Ev
section
variable {P : Program} {X : Cfg} {R : Type} {w : World}
variable {g : Gh} {env : List D} {sto : Sto} {o : Oper} {a : Act} {k : St → Option R} {r : R} {cx : Cx}
theorem foldl_bytes : ∀ (l : List UInt8) (s : ByteArray), (l.map fun b => (b.toNat : Int)).foldl (fun r n => r.push (UInt8.ofNat n.toNat)) s = ⟨(s.data.toList ++ l).toArray⟩
 | [], s => by simp
 | b :: l, s => by
  rw [List.map_cons, List.foldl_cons, foldl_bytes l]
  have e : UInt8.ofNat ((b.toNat : Int)).toNat = b := by simp
  rw [e]
  apply ByteArray.ext
  simp [ByteArray.data_push]
theorem rep_bytes {φ G} {m : Md} {l : List UInt8} {ao : Option Addr} {cap : Nat} (h : RepV X φ G w (.sl m .byte l) (.slice ao l.length cap)) :
 (Conv.bytesToString (.slice ao l.length cap)).run P w = .ok (.string ⟨l.toArray⟩) w := by
 rcases rep_slice_inv h with ⟨e0, e1, _, e2, _⟩ | ⟨e0, ⟨p, e1⟩, _, _⟩ | ⟨b, off, vs, e1, _, hlen, _, hmax, hp, hc, hr⟩
 · subst e0; subst e1; rfl
 · subst e0; subst e1
   have hload : (loadCells p 0).run P w = .ok (([] : List Int).map (Value.int .u8)).toArray w := by
    have := run_loadCells_list (P := P) w p [] (fun j v hv => by simp at hv)
    simpa using this
   have := run_bytesToString (P := P) w p 0 cap [] hload
   exact this
 · subst e1
   have hcell : ∀ j x, l[j]? = some x → w.cell? ⟨b, off + j, none⟩ = some (.int .u8 (x.toNat : Int)) := fun j x hj => by
    have hjl := (List.getElem?_eq_some_iff.1 hj).1
    have := hr j x hj 0 _ rfl
    simp only [Ty.size, Nat.mul_one, Nat.add_zero] at this
    rw [hc j (by simpa [Ty.size] using hjl), (rep_int this).1]
   have hload : (loadCells ⟨b, off, none⟩ l.length).run P w = .ok ((l.map fun x => (x.toNat : Int)).map (Value.int .u8)).toArray w := by
    have := run_loadCells_list (P := P) w ⟨b, off, none⟩ ((l.map fun x => (x.toNat : Int)).map (Value.int .u8)) (fun j v hv => by
     simp only [List.getElem?_map, Option.map_eq_some_iff] at hv
     obtain ⟨y, ⟨x, hx, rfl⟩, rfl⟩ := hv
     rw [Addr.add_mid]; exact hcell j x hx)
    simpa using this
   have := run_bytesToString (P := P) w ⟨b, off, none⟩ l.length cap (l.map fun x => (x.toNat : Int)) hload
   rw [foldl_bytes] at this
   simpa using this
theorem op_convInt (hcx : CxOk P X cx) {src dst : TypeId} {x : Operand} (ho : o.op = .convert src dst x) (hs : Sim X g w env a.tmps.toList sto) {ts td : TE} {kd : IntKind} {kx : IntKind} {n : Int}
 (h1 : look cx.tab src = some ts) (h2 : look cx.tab dst = some td) (hd : td.d = .int kd) (hx : rd env x = .int kx n) (hk : k ⟨put env o.dst (.int kd (kd.wrap n)), sto⟩ = some r) : OpOk P X o a w g k r := by
 obtain ⟨d1, hd1, _⟩ := desc_int hcx h1
 have hd2 := desc_kind hcx h2 hd
 obtain ⟨hv, _⟩ := rep_int (hx ▸ hs.read x)
 refine opOk_pure hs (.int kd (kd.wrap n)) _ ?_ (.int (InR_wrap _ _)) rfl hk
 simp [execOp, ho, hv, convert, run_underlying hd1, run_underlying hd2, Conv.intToInt]
theorem op_convStr (hcx : CxOk P X cx) {src dst : TypeId} {x : Operand} (ho : o.op = .convert src dst x) (hs : Sim X g w env a.tmps.toList sto) {ts td : TE} {s : List UInt8}
 (h1 : look cx.tab src = some ts) (h2 : look cx.tab dst = some td) (hd : td.d = .str) (hx : rd env x = .str s) (hk : k ⟨put env o.dst (.str s), sto⟩ = some r) : OpOk P X o a w g k r := by
 obtain ⟨d1, hd1, _⟩ := desc_int hcx h1
 have hd2 := desc_str hcx h2 hd
 have hr := hx ▸ hs.read x
 obtain ⟨hv, _⟩ := rep_str hr
 rw [hv] at hr
 refine opOk_pure hs (.string ⟨s.toArray⟩) _ ?_ hr rfl hk
 simp [execOp, ho, hv, convert, run_underlying hd1, run_underlying hd2]
theorem op_convBytes (hcx : CxOk P X cx) {src dst e : TypeId} {x : Operand} (ho : o.op = .convert src dst x) (hs : Sim X g w env a.tmps.toList sto) {ts td te : TE} {l : List UInt8}
 (h1 : look cx.tab src = some ts) (hsd : ts.d = .slice e) (h2 : look cx.tab dst = some td) (hd : td.d = .str) (h3 : look cx.tab e = some te) (hed : te.d = .int .u8)
 (hx : (∃ m, rd env x = .sl m .byte l) ∨ (rd env x = .nils ∧ l = [])) (hk : k ⟨put env o.dst (.str l), sto⟩ = some r) : OpOk P X o a w g k r := by
 have hu1 := desc_slice hcx h1 hsd
 have hu2 := desc_str hcx h2 hd
 have hu3 := desc_kind hcx h3 hed
 have hr := hs.read x
 generalize hv : a.eval x = v at hr
 have fin : ∀ ao len cap, v = .slice ao len cap → (Conv.bytesToString (.slice ao len cap)).run P w = .ok (.string ⟨l.toArray⟩) w → l.length ≤ 9223372036854775807 → OpOk P X o a w g k r := by
  intro ao len cap hv2 hrun hle
  refine opOk_pure hs (.string ⟨l.toArray⟩) _ ?_ (.str ⟨l.toArray⟩ hle) rfl hk
  rw [hv2] at hv
  have := run_convert_bytes_string (P := P) w src dst e ao len cap hu1 hu3 hu2
  simp [execOp, ho, hv, this, hrun]
 rcases hx with ⟨m, hx⟩ | ⟨hx, rfl⟩
 · rw [hx] at hr
   obtain ⟨ao, cap, rfl⟩ := rep_slice_form hr
   refine fin ao _ cap rfl (rep_bytes hr) ?_
   rcases rep_slice_inv hr with ⟨e0, _⟩ | ⟨e0, _⟩ | ⟨b, off, vs, _, _, hlen, _, hmax, _⟩
   · subst e0; simp
   · subst e0; simp
   · omega
 · rw [hx] at hr; cases hr
   exact fin none 0 0 rfl rfl (by simp)
theorem op_convToBytes (hcx : CxOk P X cx) {src dst e : TypeId} {x : Operand} (ho : o.op = .convert src dst x) (hs : Sim X g w env a.tmps.toList sto) {ts td te : TE} {s : List UInt8}
 (h1 : look cx.tab src = some ts) (h2 : look cx.tab dst = some td) (hd : td.d = .slice e) (h3 : look cx.tab e = some te) (hed : te.d = .int .u8)
 (hx : rd env x = .str s) (hk : k ⟨put env o.dst (.sl .own .byte s), sto⟩ = some r) : OpOk P X o a w g k r := by
 obtain ⟨d1, hd1, _⟩ := desc_int hcx h1
 have hu2 := desc_slice hcx h2 hd
 have hu3 := desc_kind hcx h3 hed
 obtain ⟨hv, hle⟩ := rep_str (hx ▸ hs.read x)
 have hrun := Lib.run_convert_string_bytes (P := P) w src dst e ⟨s.toArray⟩ hd1 hu2 hu3
 have hsz : (⟨s.toArray⟩ : ByteArray).size = s.length := rfl
 rw [hsz] at hrun
 have hge := grownCap_ge w s.length 0 e
 have hcm : grownCap w s.length 0 e ≤ maxLen := grownCap_le_maxLen w s.length 0 e (by unfold maxLen; omega)
 have hC : (Lib.bytesCells w e ⟨s.toArray⟩).size = grownCap w s.length 0 e := by
  simp [Lib.bytesCells, hsz]; omega
 obtain ⟨g', h4, e4⟩ := hs.newOwn (t := .byte) (l := s) (Lib.bytesCells w e ⟨s.toArray⟩) e ((Lib.bytesCells w e ⟨s.toArray⟩).size, (Lib.bytesCells w e ⟨s.toArray⟩).size + 1) (grownCap w s.length 0 e)
  (fun j => .int .u8 ((s.getD j 0).toNat : Int))
  (fun j hj => by
   have hj2 : j < s.length := by simpa [Ty.size] using hj
   simp [Lib.bytesCells, Array.getElem?_append, hj2, List.getD])
  (fun i x hx j c hc => by
   cases j with
   | zero =>
    simp [cells] at hc; subst hc
    have : s.getD (i * Ty.byte.size + 0) 0 = x := by simp [Ty.size, List.getD, hx]
    rw [this]
    have := x.toNat_lt
    exact .int (by simp only [InR, lo, hi]; omega)
   | succ j => simp [cells] at hc)
  hge (by unfold maxLen at hcm; exact hcm) (by simp [Ty.size, hC]) (.inr (Nat.le_refl _))
 have halike : Alike (w.alloc (.cells (Lib.bytesCells w e ⟨s.toArray⟩) e ((Lib.bytesCells w e ⟨s.toArray⟩).size, (Lib.bytesCells w e ⟨s.toArray⟩).size + 1))) (Lib.bytesWorld w e ⟨s.toArray⟩) := by
  refine ⟨?_, rfl, rfl, rfl⟩
  apply Array.ext'
  apply List.ext_getElem?
  intro j
  rw [Array.getElem?_toList, Array.getElem?_toList]
  rcases Nat.lt_trichotomy j w.heap.size with hj | hj | hj
  · rw [Lib.bytesWorld_at_old w e _ j hj]
    show _ = (w.heap.push _)[j]?
    rw [Array.getElem?_push, if_neg (Nat.ne_of_lt hj)]
  · subst hj
    rw [Lib.bytesWorld_at_new]
    show _ = (w.heap.push _)[w.heap.size]?
    rw [Array.getElem?_push, if_pos rfl]
  · rw [Array.getElem?_eq_none (by rw [Lib.bytesWorld_size]; omega), Array.getElem?_eq_none (by simp; omega)]
 obtain ⟨g2, h5, e5, _⟩ := (h4.alike halike).lay o.dst
 refine ⟨_, _, g2, _, _, .inl ?_, hk, h5, e4.trans ((Ext.alike g' halike).trans e5)⟩
 simp [execOp, ho, hv, hrun]
theorem freeze_cell (w : World) (p : Addr) (n : Nat) (q : Addr) : (w.freeze p n).cell? q = w.cell? q := by
 unfold World.freeze
 split
 · rfl
 · simp only [World.cell?, Array.getElem?_modify]
   by_cases h : p.block = q.block
   · rw [if_pos h]
     cases hh : w.heap[q.block]? with
     | none => rfl
     | some x => cases x <;> rfl
   · rw [if_neg h]
theorem freeze_heap (w : World) (p : Addr) (n k : Nat) (h : k ≠ p.block) : (w.freeze p n).heap[k]? = w.heap[k]? := by
 unfold World.freeze
 split
 · rfl
 · simp only [Array.getElem?_modify]
   rw [if_neg (fun e => h e.symm)]
theorem freeze_size (w : World) (p : Addr) (n : Nat) : (w.freeze p n).heap.size = w.heap.size := by
 unfold World.freeze
 split <;> simp
theorem freeze_str (w : World) (p : Addr) (n : Nat) : (w.freeze p n).os = w.os ∧ (w.freeze p n).tape = w.tape ∧ (w.freeze p n).output = w.output := by
 unfold World.freeze
 split <;> exact ⟨rfl, rfl, rfl⟩
theorem op_convMark (hcx : CxOk P X cx) {src e : TypeId} {x : Operand} (ho : o.op = .convert src src x) (hs : Sim X g w env a.tmps.toList sto) {ts te : TE} {l : List UInt8} (hl0 : l ≠ [])
 (h1 : look cx.tab src = some ts) (hsd : ts.d = .slice e) (h3 : look cx.tab e = some te) (hed : te.d = .int .u8)
 (hx : rd env x = .sl .own .byte l) (hk : k ⟨put (left env x) o.dst (.sl .ro .byte l), sto⟩ = some r) : OpOk P X o a w g k r := by
 have hu1 := desc_slice hcx h1 hsd
 have hu3 := desc_kind hcx h3 hed
 obtain ⟨g1, h2, e1, _⟩ := hs.take x
 have hl : (left env x).length = a.tmps.toList.length := by have := h2.len; simpa using this
 rw [hx] at h2
 have hr := h2.rep (left env x).length (.sl .own .byte l) (a.eval x) (by simp) (by rw [hl]; simp)
 generalize hv : a.eval x = v at *
 obtain ⟨ao, cap, rfl⟩ := rep_slice_form hr
 rcases rep_slice_inv hr with ⟨e0, _⟩ | ⟨e0, _⟩ | ⟨b, off, vs, e2, _, hlen, _, hmax, hp, hc, _⟩
 · exact absurd e0 hl0
 · exact absurd e0 hl0
 subst e2
 obtain ⟨kk, _, _⟩ := h2.own (.env (left env x).length 0) .own .byte l ⟨b, off, none⟩ l.length cap (.leaf (by simp) (by rw [hl]; simp)) (.inl rfl)
 simp only at kk
 have hst : Stale g1 (left env x).length b := .inr ⟨_, _, kk, Nat.le_refl _⟩
 have hshape : ∃ e' n, w.shape? b = some (e', n) := by
  have hpos : 0 < l.length * Ty.byte.size := by simp [Ty.size]; exact List.length_pos_iff.2 hl0
  have := hc 0 hpos
  unfold World.cell? at this
  unfold World.shape?
  cases hh : w.heap[b]? with
  | none => rw [hh] at this; cases this
  | some ob => rw [hh] at this; cases ob <;> first | exact ⟨_, _, rfl⟩ | cases this
 obtain ⟨e', n, hsh⟩ := hshape
 have hrun : (execOp a.eval o).run P w = .ok (.value (.slice (some ⟨b, off, none⟩) l.length cap)) (w.freeze ⟨b, n, none⟩ 1) := by
  simp [execOp, ho, hv, convert, run_underlying hu1, run_underlying hu3, markStringish, hsh]
 have hstr := freeze_str w ⟨b, n, none⟩ 1
 have hfz : ∀ b' o', b' ≠ b → (w.freeze ⟨b, n, none⟩ 1).frozen? ⟨b', o', none⟩ = w.frozen? ⟨b', o', none⟩ := fun b' o' hb => by
  unfold World.frozen?; rw [freeze_heap w ⟨b, n, none⟩ 1 b' hb]
 have h4 := h2.drop.evolveX (w' := w.freeze ⟨b, n, none⟩ 1) (G' := g1.G) b hst (fun _ => Nat.le_refl _) (fun _ _ _ _ => rfl) (fun _ _ _ => freeze_cell ..)
  (fun b' ℓ hb _ o' => ⟨freeze_cell .., hfz b' o' hb⟩) (by rw [freeze_size]; exact Nat.le_refl _) (fun b' hb => by rw [freeze_size] at hb; exact h2.gdom b' hb)
  (fun b' _ _ hn _ => freeze_heap w ⟨b, n, none⟩ 1 b' (by intro e; subst e; rw [kk] at hn; cases hn))
 have hr2 : RepV X g1.φ g1.G (w.freeze ⟨b, n, none⟩ 1) (.sl .ro .byte l) (.slice (some ⟨b, off, none⟩) l.length cap) :=
  RepV.mono (w := w) (fun _ _ h => h) (fun _ => Nat.le_refl _) (fun _ _ _ => freeze_cell ..) hr.dup1
 have h5 := h4.put o.dst _ _ hr2 rfl
 refine ⟨_, _, _, _, _, .inl hrun, hk, h5, e1.trans ⟨by rw [freeze_size]; exact Nat.le_refl _, hstr.1, hstr.2.1, hstr.2.2, ?_, fun _ _ _ => freeze_cell .., fun _ => Nat.le_refl _, fun _ _ _ => rfl, fun _ _ h => h, fun _ _ h => h⟩⟩
 intro b' _ hn
 exact freeze_heap w ⟨b, n, none⟩ 1 b' (by intro e; subst e; rw [kk] at hn; cases hn)
end
end Go.Ev
namespace Go.Ev
section
variable {P : Program} {X : Cfg} {R : Type} {w : World}
variable {g : Gh} {env : List D} {sto : Sto} {o : Oper} {a : Act} {k : St → Option R} {r : R} {cx : Cx}
def DecOk (X : Cfg) (φ : List Nat) (G : Nat → Nat) (w : World) (t : Ty) (ds : List D) (x : t.den) (r : List D) : Prop :=
 r = ds.drop t.size ∧ t.size ≤ ds.length ∧
  ∀ vs : Nat → Value, (∀ (j : Nat) c, j < t.size → ds[j]? = some c → RepV X φ G w c (vs j)) → ∀ (j : Nat) c, (cells t x)[j]? = some c → RepV X φ G w c (vs j)
theorem decOk_leaf {φ G} {t : Ty} {x : t.den} {c c' : D} {r : List D} (hs : t.size = 1) (hc : cells t x = [c']) (h : ∀ v, RepV X φ G w c v → RepV X φ G w c' v) : DecOk X φ G w t (c :: r) x r := by
 refine ⟨by rw [hs]; rfl, by rw [hs]; simp, fun vs hv j c0 hj => ?_⟩
 rw [hc] at hj
 cases j with
 | zero => simp at hj; subst hj; exact h _ (hv 0 c (by omega) rfl)
 | succ j => simp at hj
theorem rep_ro {φ G} {m : Md} {t : Ty} {l : List t.den} {v : Value} (h : RepV X φ G w (.sl m t l) v) : RepV X φ G w (.sl .ro t l) v := by
 obtain ⟨a, cap, rfl⟩ := rep_slice_form h
 rcases rep_slice_inv h with ⟨rfl, rfl, _, rfl, _⟩ | ⟨rfl, ⟨p, rfl⟩, _, hm, hcap, hmax⟩ | ⟨b, off, vs, rfl, _, hlen, _, hmax, hp, hc, hr⟩
 · exact .slNil (by decide)
 · exact .slE (by decide) (by rintro (h | h) <;> cases h) hmax
 · exact .sl vs hlen (by intro h; cases h) hmax hp hc hr
theorem decSl_sound {φ G} {t : Ty} {ds : List D} {x : List t.den} {r : List D} (h : decSl t ds = some (x, r)) : ∃ c, ds = c :: r ∧ ∀ v, RepV X φ G w c v → RepV X φ G w (.sl .ro t x) v := by
 unfold decSl at h
 split at h
 · split at h
   · rename_i hcast
     cases h
     obtain ⟨e, hcast⟩ := castL_some hcast
     subst e; subst hcast
     exact ⟨_, rfl, fun v hv => rep_ro hv⟩
   · cases h
 · cases h
   exact ⟨_, rfl, fun v hv => by cases hv; exact .slNil (by decide)⟩
 · cases h
theorem decP_sound {φ : List Nat} {G : Nat → Nat} : ∀ (t : Ty) (ds : List D) (x : t.den) (r : List D), decP t ds = some (x, r) → DecOk X φ G w t ds x r := by
 intro t
 induction t with
 | int k =>
  intro ds x r h
  change decInt k ds = some (x, r) at h
  unfold decInt at h
  split at h
  · split at h
    · rename_i e; subst e; cases h; exact decOk_leaf rfl rfl (fun _ h => h)
    · cases h
  · cases h
 | byte =>
  intro ds x r h
  change decByte ds = some (x, r) at h
  unfold decByte at h
  split at h
  · rename_i n r0
    cases h
    refine decOk_leaf rfl rfl (fun v h => ?_)
    obtain ⟨rfl, hn⟩ := rep_int h
    have e : (((UInt8.ofNat n.toNat).toNat : Nat) : Int) = n := by
     simp only [InR, lo, hi] at hn
     rw [UInt8.toNat_ofNat']
     have : n.toNat % 2 ^ 8 = n.toNat := Nat.mod_eq_of_lt (by omega)
     rw [this]; omega
    rw [e]; exact h
  · cases h
 | bool =>
  intro ds x r h
  change decBool ds = some (x, r) at h
  unfold decBool at h
  split at h
  · cases h; exact decOk_leaf rfl rfl (fun _ h => h)
  · cases h
 | str =>
  intro ds x r h
  change decStr ds = some (x, r) at h
  unfold decStr at h
  split at h
  · cases h; exact decOk_leaf rfl rfl (fun _ h => h)
  · cases h
 | err =>
  intro ds x r h
  change decErr ds = some (x, r) at h
  unfold decErr at h
  split at h
  · cases h; exact decOk_leaf rfl rfl (fun _ h => h)
  · cases h
 | slice t =>
  intro ds x r h
  change decSl t ds = some (x, r) at h
  obtain ⟨c, rfl, hc⟩ := decSl_sound (X := X) (φ := φ) (G := G) (w := w) h
  exact decOk_leaf rfl rfl hc
 | unit =>
  intro ds x r h
  change some ((), ds) = some (x, r) at h
  cases h
  exact ⟨rfl, Nat.zero_le _, fun vs _ j c hj => by simp [cells] at hj⟩
 | pair a b iha ihb =>
  intro ds x r h
  have h' : (match decP a ds with
   | some (x, r') => (match decP b r' with
    | some (y, r'') => some ((x, y), r'')
    | none => none)
   | none => none : Option ((a.den × b.den) × List D)) = some (x, r) := h
  split at h'
  · rename_i x1 r1 h1
    split at h'
    · rename_i y1 r2 h2
      cases h'
      obtain ⟨rfl, hl1, hr1⟩ := iha _ _ _ h1
      obtain ⟨rfl, hl2, hr2⟩ := ihb _ _ _ h2
      rw [List.length_drop] at hl2
      refine ⟨by rw [List.drop_drop]; rfl, by simp only [Ty.size]; omega, fun vs hv j c hj => ?_⟩
      have hca := cells_length a x1
      simp only [cells] at hj
      by_cases hja : j < a.size
      · rw [List.getElem?_append_left (by omega)] at hj
        exact hr1 vs (fun j c hj2 hd => hv j c (by simp only [Ty.size]; omega) hd) j c hj
      · rw [List.getElem?_append_right (by omega), hca] at hj
        have := hr2 (fun j => vs (a.size + j)) (fun j c hj2 hd => hv (a.size + j) c (by simp only [Ty.size]; omega) (by rw [List.getElem?_drop] at hd; exact hd)) _ c hj
        rw [show a.size + (j - a.size) = j by omega] at this
        exact this
    · cases h'
  · cases h'
 | ex =>
  intro ds x r h
  change decEx ds = some (x, r) at h
  unfold decEx at h
  split at h
  · split at h
    · rename_i hsl
      cases h
      obtain ⟨c, rfl, hc⟩ := decSl_sound (X := X) (φ := φ) (G := G) (w := w) hsl
      refine ⟨rfl, by simp [Ty.size], fun vs hv j c0 hj => ?_⟩
      simp only [Ty.size] at hv
      match j, hj with
      | 0, hj => simp [cells] at hj; subst hj; exact hv 0 _ (by omega) rfl
      | 1, hj => simp [cells] at hj; subst hj; exact hv 1 _ (by omega) rfl
      | 2, hj => simp [cells] at hj; subst hj; exact hv 2 _ (by omega) rfl
      | 3, hj => simp [cells] at hj; subst hj; exact hv 3 _ (by omega) rfl
      | 4, hj => simp [cells] at hj; subst hj; exact hv 4 _ (by omega) rfl
      | 5, hj => simp [cells] at hj; subst hj; exact hv 5 _ (by omega) rfl
      | 6, hj => simp [cells] at hj; subst hj; exact hv 6 _ (by omega) rfl
      | 7, hj => simp [cells] at hj; subst hj; exact hc _ (hv 7 _ (by omega) rfl)
      | 8, hj => simp [cells] at hj; subst hj; exact hv 8 _ (by omega) rfl
      | 9, hj => simp [cells] at hj; subst hj; exact hv 9 _ (by omega) rfl
      | j + 10, hj => simp [cells] at hj
    · cases h
  · cases h
theorem decRow_sound {t : Ty} : ∀ {cs : List (List D)} {l : List t.den}, decRow t cs = some l → l.length = cs.length ∧ ∀ (i : Nat) x, l[i]? = some x → ∃ c, cs[i]? = some c ∧ decP t c = some (x, [])
 | [], l, h => by cases h; exact ⟨rfl, fun i x hx => by simp at hx⟩
 | c :: r, l, h => by
  unfold decRow at h
  split at h
  · rename_i x hx
    split at h
    · rename_i l' hl'
      cases h
      obtain ⟨h1, h2⟩ := decRow_sound hl'
      refine ⟨by simp [h1], fun i y hy => ?_⟩
      cases i with
      | zero => simp at hy; subst hy; exact ⟨c, rfl, hx⟩
      | succ i => simp at hy; simpa using h2 i y hy
    · cases h
  · cases h
theorem foldl_set (off : Nat) : ∀ (l : List (Value × Nat)) (V : Array Value), (l.foldl (fun cs (cj : Value × Nat) => cs.setIfInBounds (off + cj.2) cj.1) V).size = V.size
 | [], V => rfl
 | x :: l, V => by rw [List.foldl_cons, foldl_set off l]; simp
theorem foldl_set_get (off : Nat) : ∀ (xs : List Value) (n : Nat) (V : Array Value) (k : Nat), off + n + xs.length ≤ V.size →
 ((xs.zipIdx n).foldl (fun cs (cj : Value × Nat) => cs.setIfInBounds (off + cj.2) cj.1) V)[k]? = if off + n ≤ k ∧ k < off + n + xs.length then xs[k - (off + n)]? else V[k]?
 | [], n, V, k, h => by
  simp
  intro h1 h2; omega
 | x :: xs, n, V, k, h => by
  rw [List.zipIdx_cons, List.foldl_cons, foldl_set_get off xs (n + 1) _ k (by simp at h ⊢; omega)]
  simp only [List.length_cons] at h ⊢
  by_cases h1 : off + (n + 1) ≤ k ∧ k < off + (n + 1) + xs.length
  · rw [if_pos h1, if_pos (by omega)]
    rw [show k - (off + n) = (k - (off + (n + 1))) + 1 by omega]; simp
  · rw [if_neg h1]
    by_cases h2 : k = off + n
    · subst h2
      rw [if_pos (by omega), Array.getElem?_setIfInBounds_self_of_lt (by omega)]
      simp
    · rw [if_neg (by omega), Array.getElem?_setIfInBounds_ne (by omega)]
theorem fill_one {place : Nat → Option (Nat × Nat)} {V : Array Value} {i off size : Nat} {v : Value} {rest : List (Nat × Value)} (hp : place i = some (off, size)) (hs : v.cells.size = size) (hle : off + size ≤ V.size) :
 ∃ V', Instr.fill place V ((i, v) :: rest) = Instr.fill place V' rest ∧ V'.size = V.size ∧ ∀ k, V'[k]? = if off ≤ k ∧ k < off + size then v.cells[k - off]? else V[k]? := by
 refine ⟨v.cells.zipIdx.foldl (fun cs (c, j) => cs.setIfInBounds (off + j) c) V, ?_, ?_, ?_⟩
 · rw [Instr.fill]
   simp only [hp]
   have h2 : ¬ (off + size > V.size) := by omega
   simp [hs, h2]
 · rw [← Array.foldl_toList]
   exact foldl_set off _ V
 · intro k
   have e : (v.cells.zipIdx).toList = v.cells.toList.zipIdx 0 := by simp
   rw [← Array.foldl_toList, e]
   have := foldl_set_get off v.cells.toList 0 V k (by simpa [hs] using hle)
   simp only [Nat.add_zero, Array.length_toList, hs, Array.getElem?_toList] at this
   exact this
end
end Go.Ev
namespace Go.Ev
section
variable {P : Program} {X : Cfg} {R : Type} {w : World}
variable {g : Gh} {env : List D} {sto : Sto} {o : Oper} {a : Act} {k : St → Option R} {r : R} {cx : Cx}
structure Elems (X : Cfg) (g : Gh) (w : World) (sz : Nat) (cs : List (List D)) (V : Array Value) : Prop where
 size : V.size = cs.length * sz
 rep : ∀ (i : Nat) c, cs[i]? = some c → c.length = sz ∧ ∀ (j : Nat) d, c[j]? = some d → ∃ u, V[i * sz + j]? = some u ∧ RepV X g.φ g.G w d u
theorem fillL_sound (hs : Sim X g w env a.tmps.toList sto) {sz : Nat} {place : Nat → Option (Nat × Nat)} (hp : ∀ i, place i = some (i * sz, sz)) :
 ∀ (parts : List (Nat × Operand)) (cs cs' : List (List D)) (V : Array Value), fillL sz env parts cs = some cs' → Elems X g w sz cs V →
  ∃ V', Instr.fill place V (parts.map fun p => (p.1, a.eval p.2)) = some V' ∧ Elems X g w sz cs' V' ∧ cs'.length = cs.length
 | [], cs, cs', V, h, hV => by
  cases h; exact ⟨V, rfl, hV, rfl⟩
 | (i, x) :: rest, cs, cs', V, h, hV => by
  unfold fillL at h
  simp only at h
  split at h
  · rename_i h1 h2
    obtain ⟨hl, hlv, h1s⟩ := fits_spec h1
    have hi : i < cs.length := Nat.le_of_ble_eq_true h2
    have hne : (rd env x).cells ≠ [] := by intro e; rw [e] at hl; simp at hl; omega
    obtain ⟨hvs, hvr⟩ := cells_rep (hs.read x) hne
    rw [hl] at hvs
    have hmul : i * sz + sz ≤ cs.length * sz := by rw [← Nat.succ_mul]; exact Nat.mul_le_mul_right _ hi
    obtain ⟨V1, hf, hsz, hget⟩ := fill_one (V := V) (rest := rest.map fun p => (p.1, a.eval p.2)) (hp i) hvs (by rw [hV.size]; exact hmul)
    have hV1 : Elems X g w sz (cs.set i (rd env x).cells) V1 := by
     refine ⟨by rw [hsz, hV.size]; simp, fun i' c hc => ?_⟩
     rcases get_set_eq hc with ⟨rfl, _, rfl⟩ | ⟨hne, hc⟩
     · refine ⟨hl, fun j d hj => ?_⟩
       obtain ⟨u, hu, hr⟩ := hvr j d hj
       have hjs : j < sz := hl ▸ (List.getElem?_eq_some_iff.1 hj).1
       refine ⟨u, ?_, hr⟩
       rw [hget, if_pos ⟨by omega, by omega⟩, show i * sz + j - i * sz = j by omega]
       exact hu
     · obtain ⟨hcl, hcr⟩ := hV.rep i' c hc
       refine ⟨hcl, fun j d hj => ?_⟩
       obtain ⟨u, hu, hr⟩ := hcr j d hj
       have hjs : j < sz := hcl ▸ (List.getElem?_eq_some_iff.1 hj).1
       refine ⟨u, ?_, hr⟩
       rw [hget, if_neg, hu]
       rintro ⟨h3, h4⟩
       rcases Nat.lt_or_gt_of_ne hne with h5 | h5
       · have : (i + 1) * sz ≤ i' * sz := Nat.mul_le_mul_right _ h5
         rw [Nat.succ_mul] at this; omega
       · have : (i' + 1) * sz ≤ i * sz := Nat.mul_le_mul_right _ h5
         rw [Nat.succ_mul] at this; omega
    obtain ⟨V', h3, h4, h5⟩ := fillL_sound hs hp rest _ cs' V1 h hV1
    exact ⟨V', by rw [List.map_cons, hf]; exact h3, h4, by rw [h5]; simp⟩
  · cases h
theorem zeros_elems {te : TE} {e : TypeId} (hte : TEok P e te) {i : TypeInfo} {z : Value} (hz : zeroL te.zero z.cells.toList = true) (h1 : 1 ≤ te.size) (n : Nat) :
 Elems X g w te.size (List.replicate n te.zero) ((Array.range (n * te.size)).map (z.cells[· % z.cells.size]!)) := by
 obtain ⟨hl, hg⟩ := zeroL_spec hz
 rw [hte.zlen] at hl
 have hzs : z.cells.size = te.size := by simpa using hl
 refine ⟨by simp, fun i' c hc => ?_⟩
 have hi : i' < n := by have := (List.getElem?_eq_some_iff.1 hc).1; simpa using this
 have : c = te.zero := by
  rw [List.getElem?_replicate, if_pos hi] at hc; exact (Option.some.inj hc).symm
 subst this
 refine ⟨hte.zlen, fun j d hj => ?_⟩
 obtain ⟨u, hu, hz1⟩ := hg j d hj
 have hjs : j < te.size := hte.zlen ▸ (List.getElem?_eq_some_iff.1 hj).1
 have hidx : i' * te.size + j < n * te.size := cell_idx hi hjs
 refine ⟨u, ?_, (zero1_spec hz1).1⟩
 rw [Array.getElem?_map]
 simp only [Array.getElem?_range, hidx, if_true, Option.map_some]
 congr 1
 rw [hzs, Nat.mul_comm, Nat.mul_add_mod, Nat.mod_eq_of_lt hjs]
 have hu' : z.cells[j]? = some u := by simpa using hu
 rw [getElem!_pos _ _ (by rw [hzs]; exact hjs)]
 exact (Array.getElem?_eq_some_iff.1 hu').2
theorem run_buildSlice {t e : TypeId} {len : Nat} {i : TypeInfo} {z : Value} (hu : P.underlying t = some (.slice e)) (hi : P.info? e = some i) (hz : i.zero = some z) (hgt : ¬ (len * i.size > 2 ^ 24))
 {ps : Array (Nat × Value)} {V : Array Value} (hf : Instr.fill (fun k => some (k * i.size, i.size)) ((Array.range (len * i.size)).map (z.cells[· % z.cells.size]!)) ps.toList = some V) :
 (Instr.buildSlice t len ps).run P w = .ok (.slice (some ⟨w.heap.size, 0, none⟩) len len) (w.alloc (.cells V e)) := by
 unfold Instr.buildSlice
 by_cases h0 : len * i.size = 0
 · have e1 : ∀ q : Array Value, (Array.range (len * i.size)).map (fun k => q[k % q.size]!) = #[] := fun q => by rw [h0]; simp
   rw [e1] at hf
   simp only [Sem.run_bind, run_underlying hu, Result.andThen_ok, sizeOf, typeInfo, program, Sem.run, hi, Sem.run_pure, if_neg hgt, if_pos h0, e1, hf]
   rfl
 · simp only [Sem.run_bind, run_underlying hu, Result.andThen_ok, sizeOf, typeInfo, program, Sem.run, hi, Sem.run_pure, if_neg hgt, if_neg h0, run_zero hi hz, hf]
   rfl
theorem op_buildSlice (hcx : CxOk P X cx) {t e : TypeId} {len : Nat} {parts : Array (Nat × Operand)} (ho : o.op = .buildSlice t len parts) (hs : Sim X g w env a.tmps.toList sto) {ts te : TE} {ty : Ty} {cs : List (List D)} {l : List ty.den}
 (h1 : look cx.tab t = some ts) (hd : ts.d = .slice e) (h2 : look cx.tab e = some te) (hty : te.ty = some ty) (hf : fillL te.size env parts.toList (List.replicate len te.zero) = some cs) (hdec : decRow ty cs = some l)
 (hle : len * te.size ≤ 16777216) (hk : k ⟨put env o.dst (.sl .own ty l), sto⟩ = some r) : OpOk P X o a w g k r := by
 have hu := desc_slice hcx h1 hd
 have hte := hcx.tab _ _ h2
 obtain ⟨i, z, hi, hisz, hiby, hz, hzl⟩ := hte.info
 obtain ⟨hts, hta, h1s, h1b⟩ := hte.ty ty hty
 have hV0 := zeros_elems (P := P) (X := X) (g := g) (w := w) hte (i := i) hzl h1s len
 obtain ⟨V, hV, hel, hcl⟩ := fillL_sound (a := a) hs (place := fun i => some (i * te.size, te.size)) (fun _ => rfl) parts.toList _ cs _ hf hV0
 obtain ⟨hll, hlr⟩ := decRow_sound hdec
 have hcl2 : cs.length = len := by rw [hcl]; simp
 have hlen : l.length = len := hll.trans hcl2
 obtain ⟨g1, h3, e1⟩ := hs.newOwn (t := ty) (l := l) V e (0, 0) len (fun j => V.getD j undef)
  (fun j hj => by
   rw [hlen, hts, ← hcl2, ← hel.size] at hj
   simp [Array.getD, hj])
  (fun ii x hx j c hc => by
   obtain ⟨cc, hcc, hdp⟩ := hlr ii x hx
   obtain ⟨hccl, hccr⟩ := hel.rep ii cc hcc
   obtain ⟨_, _, hdr⟩ := decP_sound (X := X) (φ := g.φ) (G := g.G) (w := w) ty cc x [] hdp
   have := hdr (fun j => V.getD (ii * te.size + j) undef) (fun j d _ hj => by
    obtain ⟨u, hu, hr⟩ := hccr j d hj
    have : V.getD (ii * te.size + j) undef = u := by simp only [Array.getD_eq_getD_getElem?, hu]; rfl
    rw [this]; exact hr) j c hc
   rw [hts]; exact this)
  (by omega) (by have := Nat.le_mul_of_pos_right len h1s; omega) (by rw [hel.size, hcl2, hts]; exact Nat.le_refl _) (.inl (Nat.le_refl _))
 obtain ⟨g2, h4, e2, _⟩ := h3.lay o.dst
 refine ⟨_, _, g2, _, _, .inl ?_, hk, h4, e1.trans e2⟩
 rw [hlen]
 have hps : (parts.map fun p => (p.1, a.eval p.2)).toList = parts.toList.map fun p => (p.1, a.eval p.2) := by simp
 have hrun := run_buildSlice (P := P) (w := w) (len := len) hu hi hz (ps := parts.map fun p => (p.1, a.eval p.2)) (V := V) (by rw [hisz]; omega) (by rw [hisz, hps]; exact hV)
 simp only [execOp, ho, Sem.run_bind]
 have hrun' : (Instr.buildSlice t len (parts.map fun x => match x with | (i, x) => (i, a.eval x))).run P w = .ok (.slice (some ⟨w.heap.size, 0, none⟩) len len) (w.alloc (.cells V e)) := hrun
 rw [hrun']
 rfl
def mergeL (n off : Nat) : Loc → Loc
 | .env t 0 => if t = n + 1 then .env n (off + 1) else .env t 0
 | .env t (j + 1) => if t = n + 1 then .env n (off + j + 1) else .env t (j + 1)
 | ℓ => ℓ
theorem mergeL_other {n off t j : Nat} (h : t ≠ n + 1) : mergeL n off (.env t j) = .env t j := by cases j <;> simp [mergeL, h]
theorem mergeL_cell {n off m j : Nat} (h : m = 0 ∧ j = 0 ∨ m = j + 1) : mergeL n off (.env (n + 1) m) = .env n (off + j + 1) := by
 rcases h with ⟨rfl, rfl⟩ | rfl <;> simp [mergeL]
theorem Sim.merge {g env vals sto} {cs : List D} {vs : Array Value} {d : D} {v : Value} (h : Sim X g w ((env ++ [.agg cs]) ++ [d]) ((vals ++ [.agg vs]) ++ [v]) sto) (hn : d.cells ≠ []) {off : Nat}
 (hle : off + d.cells.length ≤ cs.length) {vs' : Array Value} (hsz : vs'.size = vs.size) (hget : ∀ k, vs'[k]? = if off ≤ k ∧ k < off + d.cells.length then v.cells[k - off]? else vs[k]?) :
 ∃ g', Sim X g' w (env ++ [.agg (splice cs off d.cells)]) (vals ++ [.agg vs']) sto ∧ Ext g w g' w ∧ g'.φ = g.φ ∧ g'.G = g.G := by
 have hl1 : (env ++ [D.agg cs]).length = (vals ++ [Value.agg vs]).length := by have := h.len; simpa using this
 have hl : env.length = vals.length := by simpa using hl1
 have hdv := h.rep (env ++ [D.agg cs]).length d v (by simp) (by rw [hl1]; simp)
 have hav := h.rep env.length (.agg cs) (.agg vs) (by rw [List.getElem?_append_left (by simp)]; simp) (by rw [List.getElem?_append_left (by simp [hl]), hl]; simp)
 obtain ⟨hcsz, hcr⟩ := cells_rep hdv hn
 have hspl : (splice cs off d.cells).length = cs.length := by simp [splice]; omega
 obtain ⟨havl, havr⟩ : vs.size = cs.length ∧ ∀ (j : Nat) c, cs[j]? = some c → RepV X g.φ g.G w c (vs.getD j undef) := by
  cases hav with | agg h1 h2 => exact ⟨h1, h2⟩
 have hout : ∀ j, (j < off ∨ off + d.cells.length ≤ j) → vs'.getD j undef = vs.getD j undef := fun j hj => by
  simp only [Array.getD_eq_getD_getElem?, hget j]; rw [if_neg (by omega)]
 have hin : ∀ j u, v.cells[j]? = some u → j < d.cells.length → vs'.getD (off + j) undef = u := fun j u hu hj => by
  simp only [Array.getD_eq_getD_getElem?, hget (off + j)]
  rw [if_pos ⟨by omega, by omega⟩, show off + j - off = j by omega, hu]; rfl
 refine ⟨_, h.re (mergeL env.length off) (fun _ => rfl) (by simp [hl]) ?_ ?_, .names _, rfl, rfl⟩
 · intro t d' u hd hu
   rcases getElem?_snoc hd with ⟨ht, hd⟩ | ⟨rfl, rfl⟩
   · rw [List.getElem?_append_left (hl ▸ ht)] at hu
     exact h.rep t d' u (by rw [List.getElem?_append_left (by simp; omega), List.getElem?_append_left ht]; exact hd) (by rw [List.getElem?_append_left (by simp; omega), List.getElem?_append_left (hl ▸ ht)]; exact hu)
   · rw [hl] at hu; simp at hu; subst hu
     refine .agg (by rw [hspl, hsz, havl]) (fun j c hj => ?_)
     by_cases hj2 : j < off ∨ off + d.cells.length ≤ j
     · rw [splice_get_out hle hj2] at hj
       rw [hout j hj2]; exact havr j c hj
     · obtain ⟨j', rfl⟩ : ∃ j', j = off + j' := ⟨j - off, by omega⟩
       rw [splice_get_in hle (by omega)] at hj
       obtain ⟨u, hu, hr⟩ := hcr j' c hj
       rw [hin j' u hu (by omega)]; exact hr
 · intro ℓ md ty l aa len cap hoc hmd
   cases ℓ with
   | env t j =>
    by_cases ht : t < env.length
    · refine ⟨.env t j, mergeL_other (by omega), hoc.shift ?_ ?_⟩
      · rw [List.getElem?_append_left (by simp; omega), List.getElem?_append_left ht, List.getElem?_append_left ht]
      · rw [List.getElem?_append_left (by simp; omega), List.getElem?_append_left (hl ▸ ht), List.getElem?_append_left (hl ▸ ht)]
    · have he : t = env.length := by have := hoc.lt; simp at this; omega
      subst he
      generalize hℓ : Loc.env env.length j = ℓ at hoc
      generalize hxx : D.sl md ty l = xx at hoc
      generalize hyy : Value.slice (some aa) len cap = yy at hoc
      cases hoc with
      | leaf hd hv' => cases hℓ; simp at hd; subst hd; cases hxx
      | tup hd hv' hj' he => cases hℓ; simp at hd
      | cell => cases hℓ
      | agg hd hv' hj' he =>
       cases hℓ
       simp at hd; rw [hl] at hv'; simp at hv'
       subst hd; subst hv'; subst hxx; subst hyy
       rename_i j
       by_cases hj2 : j < off ∨ off + d.cells.length ≤ j
       · rw [splice_get_out hle hj2] at hj'
         rw [hout j hj2] at he
         exact ⟨.env env.length (j + 1), mergeL_other (by omega), .agg (cs := cs) (vs := vs) (by rw [List.getElem?_append_left (by simp)]; simp) (by rw [List.getElem?_append_left (by simp [hl]), hl]; simp) hj' he⟩
       · obtain ⟨j', rfl⟩ : ∃ j', j = off + j' := ⟨j - off, by omega⟩
         rw [splice_get_in hle (by omega)] at hj'
         obtain ⟨u, hu, hr⟩ := hcr j' _ hj'
         rw [hin j' u hu (by omega)] at he
         subst he
         obtain ⟨m, hm, hmj⟩ := Occ.of_cells (φ := g.φ) (w := w) (sto := sto) hl1 (fun _ => hcsz) hj' hu (rep_agg hdv) (rep_leaf hdv hn)
         have e : (env ++ [D.agg cs]).length = env.length + 1 := by simp
         rw [e] at hm
         exact ⟨_, mergeL_cell hmj, hm⟩
   | obj i => exact hoc.not_obj.elim
   | cell i j => exact ⟨.cell i j, rfl, hoc.of_slot (fun _ _ h => by cases h)⟩
theorem getD_hand {env hs : List D} {t : Nat} (ht : t < env.length) : (env ++ hs).getD t .any = env.getD t .any := by
 simp only [List.getD]; rw [List.getElem?_append_left ht]
theorem Sim.take2 {h1 : D} {v1 : Value} (hs : Sim X g w (env ++ [h1]) (a.tmps.toList ++ [v1]) sto) (x : Operand) (hne : (rd env x).cells ≠ []) :
 ∃ g', Sim X g' w ((left env x ++ [h1]) ++ [rd env x]) ((a.tmps.toList ++ [v1]) ++ [a.eval x]) sto ∧ Ext g w g' w ∧ g'.φ = g.φ ∧ g'.G = g.G := by
 have hl : env.length = a.tmps.toList.length := by have := hs.len; simpa using this
 have hr := hs.drop.read x
 cases x with
 | tmp t =>
  have ht : t < env.length := by
   rcases Nat.lt_or_ge t env.length with h | h
   · exact h
   · exfalso; apply hne
     show (env.getD t .any).cells = []
     rw [getD_out h]; rfl
  have hv : t < a.tmps.size := Nat.lt_of_lt_of_eq ht (hl.trans Array.length_toList)
  obtain ⟨g', h2, e, e1, e2⟩ := hs.hand (s := t) (d := env.getD t .any) (v := a.tmps.getD t undef) (by rw [List.getElem?_append_left ht]; exact rd_tmp_get ht)
   (by rw [List.getElem?_append_left (hl ▸ ht)]; simp [Array.getD, hv])
  refine ⟨g', ?_, e, e1, e2⟩
  rw [List.set_append_left _ _ ht] at h2
  exact h2
 | const v => exact ⟨g, hs.push _ _ hr (const_free v), .refl _ _, rfl, rfl⟩
 | func f => exact ⟨g, hs.push _ _ hr rfl, .refl _ _, rfl, rfl⟩
 | global b => exact absurd rfl hne
theorem fillS_sound {fs : List FI} {place : Nat → Option (Nat × Nat)} (hp : ∀ (i : Nat) fi, fs[i]? = some fi → place i = some (fi.off, fi.size)) :
 ∀ (parts : List (Nat × Operand)) (env env' : List D) (cs cs' : List D) (V : Array Value) (g : Gh), fillS fs env parts cs = some (cs', env') → Sim X g w (env ++ [.agg cs]) (a.tmps.toList ++ [.agg V]) sto →
  ∃ V' g', Instr.fill place V (parts.map fun p => (p.1, a.eval p.2)) = some V' ∧ Sim X g' w (env' ++ [.agg cs']) (a.tmps.toList ++ [.agg V']) sto ∧ Ext g w g' w
 | [], env, env', cs, cs', V, g, h, hs => by
  cases h; exact ⟨V, g, rfl, hs, .refl _ _⟩
 | (i, x) :: rest, env, env', cs, cs', V, g, h, hs => by
  unfold fillS at h
  split at h
  · rename_i fi hfi
    split at h
    · rename_i h1 h2
      obtain ⟨hl, hlv, h1s⟩ := fits_spec h1
      have hne : (rd env x).cells ≠ [] := by intro e; rw [e] at hl; simp at hl; omega
      have hle := Nat.le_of_ble_eq_true h2
      have hln : env.length = a.tmps.toList.length := by have := hs.len; simpa using this
      have hag := hs.rep env.length (.agg cs) (.agg V) (by simp) (by rw [hln]; simp)
      have hVs : V.size = cs.length := by cases hag with | agg h _ => exact h
      obtain ⟨hvs, _⟩ := cells_rep (hs.drop.read x) hne
      obtain ⟨V1, hf, hsz, hget⟩ := fill_one (V := V) (rest := rest.map fun p => (p.1, a.eval p.2)) (hp i fi hfi) (hvs.trans hl) (by rw [hVs]; omega)
      obtain ⟨g1, h3, e1, _⟩ := hs.take2 x hne
      obtain ⟨g2, h4, e2, _⟩ := h3.merge hne hle hsz (fun k => by rw [hget k, hl])
      obtain ⟨V', g', h5, h6, h7⟩ := fillS_sound hp rest _ env' _ cs' V1 g2 h h4
      exact ⟨V', g', by rw [List.map_cons, hf]; exact h5, h6, e1.trans (e2.trans h7)⟩
    · cases h
  · cases h
theorem run_places : ∀ {fs : List FI} {F : List Field}, fieldsB P fs F = true → (F.mapM fun f => (do pure (f.offset, ← sizeOf f.type) : Sem (Nat × Nat))).run P w = .ok (fs.map fun fi => (fi.off, fi.size)) w
 | [], [], _ => rfl
 | [], _ :: _, h => by cases h
 | _ :: _, [], h => by cases h
 | fi :: fs, f :: F, h => by
  rw [fieldsB, Bool.and_eq_true] at h
  obtain ⟨h1, h2⟩ := h
  have ih := run_places h2
  obtain ⟨fl, e1, e2, e3, _⟩ := field_get (P := P) (fs := [fi]) (F := #[f]) (by simp [fieldsB, h1]) (f := 0) (fi := fi) rfl
  simp at e1; subst e1
  rw [List.mapM_cons]
  simp only [Sem.run_bind, e3, Result.andThen_ok, Sem.run_pure, ih, e2]
  rfl
theorem op_build (hcx : CxOk P X cx) {t : TypeId} {parts : Array (Nat × Operand)} (ho : o.op = .build t parts) (hs : Sim X g w env a.tmps.toList sto) {ts : TE} {fs : List FI} {cs env' : List D}
 (h1 : look cx.tab t = some ts) (hd : ts.d = .struct fs) (hf : fillS fs env parts.toList ts.zero = some (cs, env')) (hk : k ⟨put env' o.dst (.agg cs), sto⟩ = some r) : OpOk P X o a w g k r := by
 obtain ⟨F, hu, hF⟩ := desc_struct hcx h1 hd
 have hte := hcx.tab _ _ h1
 obtain ⟨i, z, hi, _, _, hz, hzl⟩ := hte.info
 obtain ⟨hzlen, hzg⟩ := zeroL_spec hzl
 have hrep : RepV X g.φ g.G w (.agg ts.zero) (.agg z.cells) := .agg (by simpa using hzlen) (fun j c hj => by
  obtain ⟨u, hu, hz1⟩ := hzg j c hj
  have : (z.cells).getD j undef = u := by
   have hu' : z.cells[j]? = some u := by simpa using hu
   have := (Array.getElem?_eq_some_iff.1 hu')
   simp [Array.getD, this.1, this.2]
  rw [this]; exact (zero1_spec hz1).1)
 have hfree : (D.agg ts.zero).free = true := by
  simp only [D.free, List.all_eq_true]
  intro c hc
  obtain ⟨j, hj⟩ := List.mem_iff_getElem?.1 hc
  obtain ⟨u, hu, hz1⟩ := hzg j c hj
  unfold zero1 at hz1
  split at hz1 <;> first | rfl | cases hz1
 obtain ⟨V', g', h3, h4, e1⟩ := fillS_sound (a := a) (place := fun i => (fs.map fun fi => (fi.off, fi.size)).toArray[i]?) (fun i fi hfi => by simp [hfi]) parts.toList env env' ts.zero cs z.cells g hf (hs.push _ _ hrep hfree)
 obtain ⟨g2, h5, e2, _⟩ := h4.lay o.dst
 refine ⟨_, w, g2, _, _, .inl ?_, hk, h5, e1.trans e2⟩
 have hpl : (F.mapM fun f => (do pure (f.offset, ← sizeOf f.type) : Sem (Nat × Nat))).run P w = .ok (fs.map fun fi => (fi.off, fi.size)).toArray w := by
  rw [Array.mapM_eq_mapM_toList]
  have := run_places (w := w) hF
  simp only [map_eq_pure_bind, Sem.run_bind, this, Result.andThen_ok, Sem.run_pure]
 have hps : (parts.map fun p => (p.1, a.eval p.2)).toList = parts.toList.map fun p => (p.1, a.eval p.2) := by simp
 have hrun : (Instr.build t (parts.map fun p => (p.1, a.eval p.2))).run P w = .ok (.agg V') w := by
  unfold Instr.build
  have h3' : Instr.fill (fun x => (fs.map fun fi => (fi.off, fi.size)).toArray[x]?) z.cells (parts.map fun p => (p.1, a.eval p.2)).toList = some V' := by rw [hps]; exact h3
  simp only [Sem.run_bind, run_zero hi hz, run_underlying hu, Result.andThen_ok, hpl, h3', Sem.run_pure]
 simp only [execOp, ho, Sem.run_bind]
 have hrun' : (Instr.build t (parts.map fun x => match x with | (i, x) => (i, a.eval x))).run P w = .ok (.agg V') w := hrun
 rw [hrun']
 rfl
end
end Go.Ev
namespace Go.Ev
section
variable {P : Program} {X : Cfg} {R : Type} {w : World}
variable {g : Gh} {env : List D} {sto : Sto} {o : Oper} {a : Act} {k : St → Option R} {r : R} {cx : Cx}
def CallPost (X : Cfg) (g : Gh) (w : World) (K : D → Sto → Option R) (r : R) : Ending → World → Prop :=
 fun e w' => ∃ v d sto' g', e = .returned v ∧ K d sto' = some r ∧ Sim X g' w' [d] [v] sto' ∧ Ext g w g' w'
def CallsOp (P : Program) (f : FuncId) (args : Array Value) (w : World) (Q : Ending → World → Prop) : Prop :=
 ((callFunc f args).run P w = .ok (.enter f args) w ∧ Calls P f args w Q) ∨ (∃ v w', (callFunc f args).run P w = .ok (.value v) w' ∧ Q (.returned v) w')
def HcOk (P : Program) (X : Cfg) (hc : FuncId → List D → Sto → (D → Sto → Option R) → Option R) : Prop :=
 ∀ f args sto K r g w (vals : List Value), hc f args sto K = some r → Sim X g w args vals sto → CallsOp P f vals.toArray w (CallPost X g w K r)
theorem Sim.dropAll {g vals} : ∀ {H : List D} {HV : List Value}, env.length = vals.length → Sim X g w (env ++ H) (vals ++ HV) sto → Sim X g w env vals sto := by
 intro H HV hl h
 refine h.re_id hl ?_ ?_
 · intro t d v hd hv
   exact h.rep t d v (by rw [List.getElem?_append_left (List.getElem?_eq_some_iff.1 hd).1]; exact hd) (by rw [List.getElem?_append_left (List.getElem?_eq_some_iff.1 hv).1]; exact hv)
 · intro ℓ md ty l a len cap ho hmd
   cases ℓ with
   | env t j => exact ho.shift (List.getElem?_append_left ho.lt) (List.getElem?_append_left (hl ▸ ho.lt))
   | obj i => exact ho.not_obj.elim
   | cell i j => exact ho.of_slot (fun _ _ h => by cases h)
theorem argsOf_sound (want : List Nat) : ∀ (args : List Operand) (i : Nat) (env env' : List D) (ds H : List D) (HV : List Value) (g : Gh), argsOf env want i args = (ds, env') →
 env.length = a.tmps.toList.length → Sim X g w (env ++ H) (a.tmps.toList ++ HV) sto →
  ∃ g', Sim X g' w (env' ++ (H ++ ds)) (a.tmps.toList ++ (HV ++ args.map a.eval)) sto ∧ Ext g w g' w ∧ env'.length = a.tmps.toList.length
 | [], i, env, env', ds, H, HV, g, h, hl, hs => by
  cases h; exact ⟨g, by simpa using hs, .refl _ _, hl⟩
 | x :: rest, i, env, env', ds, H, HV, g, h, hl, hs => by
  have hr := (hs.dropAll hl).read x
  unfold argsOf at h
  simp only at h
  split at h
  · -- taken over
    rename_i hw
    generalize hrec : argsOf (left env x) want (i + 1) rest = p at h
    obtain ⟨ds', env2⟩ := p
    simp only at h
    cases h
    have htake : ∃ g', Sim X g' w (left env x ++ (H ++ [rd env x])) (a.tmps.toList ++ (HV ++ [a.eval x])) sto ∧ Ext g w g' w := by
     cases x with
     | tmp t =>
      by_cases ht : t < env.length
      · have hv : t < a.tmps.size := Nat.lt_of_lt_of_eq ht (hl.trans Array.length_toList)
        obtain ⟨g', h2, e, _⟩ := hs.hand (s := t) (d := env.getD t .any) (v := a.tmps.getD t undef) (by rw [List.getElem?_append_left ht]; exact rd_tmp_get ht)
         (by rw [List.getElem?_append_left (hl ▸ ht)]; simp [Array.getD, hv])
        refine ⟨g', ?_, e⟩
        rw [List.set_append_left _ _ ht, List.append_assoc, List.append_assoc] at h2
        exact h2
      · have e : rd env (.tmp t) = .any := getD_out (Nat.le_of_not_lt ht)
        have e2 : left env (.tmp t) = env := List.set_eq_of_length_le (Nat.le_of_not_lt ht)
        rw [e, e2, ← List.append_assoc, ← List.append_assoc]
        exact ⟨g, hs.push _ _ (.any _) rfl, .refl _ _⟩
     | const v => rw [← List.append_assoc, ← List.append_assoc]; exact ⟨g, hs.push _ _ hr (const_free v), .refl _ _⟩
     | func f => rw [← List.append_assoc, ← List.append_assoc]; exact ⟨g, hs.push _ _ hr rfl, .refl _ _⟩
     | global b => rw [← List.append_assoc, ← List.append_assoc]; exact ⟨g, hs.push _ _ hr rfl, .refl _ _⟩
    obtain ⟨g1, h1, e1⟩ := htake
    have hl2 : (left env x).length = a.tmps.toList.length := by rw [← hl]; cases x <;> simp [left]
    obtain ⟨g2, h3, e2, hl3⟩ := argsOf_sound want rest (i + 1) _ _ _ _ _ g1 hrec hl2 h1
    refine ⟨g2, ?_, e1.trans e2, hl3⟩
    simpa [List.append_assoc] using h3
  · rename_i hw
    generalize hrec : argsOf env want (i + 1) rest = p at h
    obtain ⟨ds', env2⟩ := p
    simp only at h
    cases h
    have h1 := hs.push _ _ hr.dup (dup_free _)
    rw [List.append_assoc, List.append_assoc] at h1
    obtain ⟨g2, h3, e2, hl3⟩ := argsOf_sound want rest (i + 1) _ _ _ _ _ g hrec hl h1
    refine ⟨g2, ?_, e2, hl3⟩
    simpa [List.append_assoc] using h3
theorem Sim.pushAll : ∀ {ds : List D} {vs : List Value} {env : List D} {vals : List Value}, Sim X g w env vals sto → ds.length = vs.length → (∀ (j : Nat) d v, ds[j]? = some d → vs[j]? = some v → RepV X g.φ g.G w d v ∧ d.free = true) →
 Sim X g w (env ++ ds) (vals ++ vs) sto
 | [], [], env, vals, h, _, _ => by simpa using h
 | [], _ :: _, _, _, _, h, _ => by cases h
 | _ :: _, [], _, _, _, h, _ => by cases h
 | d :: ds, v :: vs, env, vals, h, hl, hr => by
  obtain ⟨h1, h2⟩ := hr 0 d v rfl rfl
  have := Sim.pushAll (h.push d v h1 h2) (by simpa using hl) (fun j d v hd hv => hr (j + 1) d v (by simpa using hd) (by simpa using hv))
  simpa [List.append_assoc] using this
def inner (g : Gh) (n : Nat) : Gh :=
 { g with κ := fun b => match g.κ b with
  | some (.env t j) => if t < n then none else some (.env (t - n) j)
  | x => x }
theorem inner_none {g : Gh} {n b : Nat} (h : g.κ b = none) : (inner g n).κ b = none := by simp [inner, h]
theorem Sim.enter {vals ds dv} (hl : env.length = vals.length) (h : Sim X g w (env ++ ds) (vals ++ dv) sto) : Sim X (inner g env.length) w ds dv sto := by
 have hocc : ∀ ℓ d v, Occ g.φ w ds dv sto ℓ d v → Occ g.φ w (env ++ ds) (vals ++ dv) sto (match ℓ with | .env t j => .env (env.length + t) j | ℓ => ℓ) d v := by
  intro ℓ d v ho
  cases ℓ with
  | env t j =>
   refine ho.shift (t' := env.length + t) ?_ ?_
   · rw [List.getElem?_append_right (by omega)]; congr 1; omega
   · rw [List.getElem?_append_right (by omega)]; congr 1; omega
  | obj i => exact ho.not_obj.elim
  | cell i j => exact ho.of_slot (fun _ _ h => by cases h)
 refine ⟨by have := h.len; simp at this; omega, ?_, h.slen, ?_, ?_, ?_, h.gdom, h.glob.names fun b hb => by simp [inner, hb]⟩
 · intro t d v hd hv
   exact h.rep (env.length + t) d v (by rw [List.getElem?_append_right (by omega)]; rw [show env.length + t - env.length = t by omega]; exact hd)
    (by rw [List.getElem?_append_right (by omega)]; rw [show env.length + t - vals.length = t by omega]; exact hv)
 · intro i b cs hb hi
   exact (h.obj i b cs hb hi).map (fun b k => ⟨by simp [inner, k], id, fun _ => ⟨rfl, rfl⟩⟩) (fun _ _ h => h)
 · intro ℓ md t l a len cap ho hmd
   obtain ⟨k, gg, sp⟩ := h.own _ _ _ _ _ _ _ (hocc _ _ _ ho) hmd
   refine ⟨?_, gg, sp⟩
   cases ℓ with
   | env t j => simp only at k; simp [inner, k]
   | obj i => exact ho.not_obj.elim
   | cell i j => simp only at k; simp [inner, k]
 · intro b ℓ hb
   cases hk : g.κ b with
   | none => simp [inner, hk] at hb
   | some ℓ' => exact h.kdom b ℓ' hk
def outer (g g1 : Gh) (n : Nat) : Nat → Option Loc := fun b =>
 match g.κ b with
 | some (.env t j) => if t < n then some (.env t j) else (g1.κ b).map fun ℓ => match ℓ with | .env t j => .env (n + t) j | ℓ => ℓ
 | _ => (g1.κ b).map fun ℓ => match ℓ with | .env t j => .env (n + t) j | ℓ => ℓ
theorem Sim.back {vals ds dv d v sto1} {w1 : World} {g1 : Gh} (hl : env.length = vals.length) (h : Sim X g w (env ++ ds) (vals ++ dv) sto) (h1 : Sim X g1 w1 [d] [v] sto1)
 (e : Ext (inner g env.length) w g1 w1) : ∃ g2, Sim X g2 w1 (env ++ [d]) (vals ++ [v]) sto1 ∧ Ext g w g2 w1 := by
 have hinn : ∀ b t j, g.κ b = some (.env t j) → t < env.length → (inner g env.length).κ b = none := fun b t j hk ht => by simp [inner, hk, ht]
 have hk1 : ∀ b ℓ, g1.κ b = some ℓ → outer g g1 env.length b = some (match ℓ with | .env t j => .env (env.length + t) j | ℓ => ℓ) := by
  intro b ℓ hb
  unfold outer
  split
  · rename_i t j hk
    split
    · rename_i ht
      have := e.kdom b (h.kdom b _ hk) (hinn b t j hk ht)
      rw [this] at hb; cases hb
    · rw [hb]; rfl
  · rw [hb]; rfl
 have hocc1 : ∀ {j : Nat} {md : Md} {ty : Ty} {l : List ty.den} {u : Value}, Occ g1.φ w1 (env ++ [d]) (vals ++ [v]) sto1 (.env env.length j) (.sl md ty l) u → Occ g1.φ w1 [d] [v] sto1 (.env 0 j) (.sl md ty l) u := by
  intro j md ty l u ho
  refine ho.shift (t' := 0) ?_ ?_
  · simp
  · rw [hl]; simp
 let g2 : Gh := { φ := g1.φ, G := g1.G, κ := outer g g1 env.length }
 refine ⟨g2, ⟨by simp [hl], ?_, h1.slen, ?_, ?_, ?_, h1.gdom, h1.glob.mono (fun b ob hm hb _ => by have := (h.glob b ob hm).1; simp [g2, outer, hb, this]) (fun _ _ _ _ _ => rfl)⟩, ⟨e.size, e.os, e.tape, e.output, fun b hb hn => e.blk b hb (inner_none hn), e.cell, e.gmono, fun b hb hn => e.gsame b hb (inner_none hn), ?_, e.φ⟩⟩
 · intro t d' v' hd hv
   rcases getElem?_snoc hd with ⟨ht, hd⟩ | ⟨rfl, rfl⟩
   · rw [List.getElem?_append_left (hl ▸ ht)] at hv
     have := h.rep t d' v' (by rw [List.getElem?_append_left ht]; exact hd) (by rw [List.getElem?_append_left (hl ▸ ht)]; exact hv)
     exact this.mono e.φ e.gmono e.cell
   · rw [hl] at hv; simp at hv; subst hv
     exact h1.rep 0 d' v rfl rfl
 · intro i b cs hb hi
   exact (h1.obj i b cs hb hi).map (fun b k => ⟨hk1 b _ k, id, fun _ => ⟨rfl, rfl⟩⟩) (fun _ _ h => h)
 · intro ℓ md ty l aa len cap ho hmd
   cases ℓ with
   | env t j =>
    by_cases ht : t < env.length
    · have ho' : Occ g.φ w (env ++ ds) (vals ++ dv) sto (.env t j) (.sl md ty l) (.slice (some aa) len cap) := by
       have := ho.shift (env' := env ++ ds) (vals' := vals ++ dv) (t' := t) (by rw [List.getElem?_append_left ht, List.getElem?_append_left ht]) (by rw [List.getElem?_append_left (hl ▸ ht), List.getElem?_append_left (hl ▸ ht)])
       generalize hℓ : Loc.env t j = ℓ at this ⊢
       cases this with
       | leaf hd hv => exact .leaf hd hv
       | agg hd hv hj he => exact .agg hd hv hj he
       | tup hd hv hj he => exact .tup hd hv hj he
       | cell => cases hℓ
      obtain ⟨k, gg, sp⟩ := h.own _ _ _ _ _ _ _ ho' hmd
      have hin := hinn _ _ _ k ht
      have hlt := h.kdom _ _ k
      have hblk := e.blk _ hlt hin
      refine ⟨by simp [g2, outer, k, ht], (e.gsame _ hlt hin).trans gg, fun jj h1 h2 => ?_⟩
      obtain ⟨⟨u, hu⟩, hf⟩ := sp jj h1 h2
      exact ⟨⟨u, by rw [World.cell?_of_block (w := w) (a := ⟨aa.block, aa.off + jj, none⟩) hblk]; exact hu⟩, by rw [World.frozen?_of_block (w := w) (a := ⟨aa.block, aa.off + jj, none⟩) hblk]; exact hf⟩
    · have he : t = env.length := by have := ho.lt; simp at this; omega
      subst he
      obtain ⟨k, gg, sp⟩ := h1.own _ _ _ _ _ _ _ (hocc1 ho) hmd
      exact ⟨by have := hk1 _ _ k; simpa using this, gg, sp⟩
   | obj i => exact ho.not_obj.elim
   | cell i j =>
    obtain ⟨k, gg, sp⟩ := h1.own _ _ _ _ _ _ _ (ho.of_slot (env' := [d]) (vals' := [v]) (fun _ _ h => by cases h)) hmd
    exact ⟨hk1 _ _ k, gg, sp⟩
 · intro b ℓ hb
   have hb' : outer g g1 env.length b = some ℓ := hb
   cases hk : g1.κ b with
   | some ℓ' => exact h1.kdom b ℓ' hk
   | none =>
    unfold outer at hb'
    split at hb'
    · rename_i t j hk2
      exact Nat.lt_of_lt_of_le (h.kdom b _ hk2) e.size
    · rw [hk] at hb'; cases hb'
 · intro b hb hn
   have := e.kdom b hb (inner_none hn)
   show outer g g1 env.length b = none
   simp [outer, hn, this]
theorem op_call {cx : Cx} (hb0 : cx.b0 = X.b0) {fo : Operand} {args : Array Operand} {f : FuncId} (hco : callOk cx fo f args.toList = true) {hc : FuncId → List D → Sto → (D → Sto → Option R) → Option R} (hok : HcOk P X hc) {ats : Array TypeId} (ho : o.op = .call { callee := .value fo, args, argTypes := ats })
 (hs : Sim X g w env a.tmps.toList sto) {caps : List D} {want : List Nat} (hf : rd env fo = .fn f caps) {ds env' : List D} (hargs : argsOf env want 0 args.toList = (ds, env'))
 (h : (hc f (ds ++ caps.map D.dup) sto fun d sto' => k ⟨put env' o.dst d, sto'⟩) = some r) {next : Act → World → Prop} {Q : Exit → Act → World → Prop}
 (hn : ∀ v w' g' env' sto', k ⟨env', sto'⟩ = some r → Sim X g' w' env' (putV a.tmps.toList o.dst v) sto' → Ext g w g' w' → next (a.put o.dst v) w') : o.wp P a w next Q := by
 obtain ⟨first, cap2, hfv, h00, hcv⟩ : ∃ first cap2 : Array Value, a.eval fo = .func (.func f) first cap2 ∧ (first = #[] ∨ (cap2 = #[] ∧ args = #[])) ∧ ((first ++ cap2).size = caps.length ∧ ∀ (j : Nat) c, caps[j]? = some c → RepV X g.φ g.G w c ((first ++ cap2).getD j undef)) := by
  by_cases hfn : ∃ f2, fo = .func f2
  · obtain ⟨f2, rfl⟩ := hfn
    cases hf
    exact ⟨#[], #[], rfl, .inl rfl, rfl, fun j c hj => by simp at hj⟩
  · have := hs.read fo
    rw [hf] at this
    generalize hv : a.eval fo = v at this
    cases this with
    | fn hl hb hr =>
     refine ⟨_, _, rfl, ?_, hl, hr⟩
     rcases hb with hb | ⟨hb, hb2⟩
     · exact .inl hb
     · refine .inr ⟨hb, ?_⟩
       unfold callOk at hco
       split at hco
       · rename_i f2 _; exact absurd ⟨_, rfl⟩ hfn
       · cases hl2 : args.toList with
         | nil => apply Array.ext'; exact hl2
         | cons x y => rw [hl2] at hco; simp [hb0, hb2] at hco
 generalize hcvv : first ++ cap2 = cv at hcv
 obtain ⟨g1, h1, e1, hl⟩ := argsOf_sound (a := a) want args.toList 0 env env' ds [] [] g hargs hs.len (by simpa using hs)
 simp only [List.nil_append] at h1
 have h2 := Sim.pushAll (ds := caps.map D.dup) (vs := cv.toList) h1 (by simp [hcv.1]) (fun j d v hd hv => by
  simp only [List.getElem?_map, Option.map_eq_some_iff] at hd
  obtain ⟨c, hc0, rfl⟩ := hd
  have := hcv.2 j c hc0
  have e : cv.getD j undef = v := by
   have hv' : cv[j]? = some v := by simpa using hv
   simp only [Array.getD_eq_getD_getElem?, hv']; rfl
  rw [e] at this
  exact ⟨(this.mono e1.φ e1.gmono e1.cell).dup, dup_free _⟩)
 rw [List.append_assoc, List.append_assoc] at h2
 have h3 := h2.enter hl
 have hcall := hok f _ sto _ r _ w _ h h3
 have hvals : (args.toList.map a.eval ++ cv.toList).toArray = args.map a.eval ++ cv := by simp
 rw [hvals] at hcall
 have hrun : (execOp a.eval o).run P w = (callFunc f (args.map a.eval ++ cv)).run P w := by
  rcases h00 with rfl | ⟨rfl, rfl⟩
  · rw [Array.empty_append] at hcvv
    subst hcvv
    simp [execOp, ho, resolve, hfv, Deferred.ofValue, invoke]
  · rw [Array.append_empty] at hcvv
    subst hcvv
    simp [execOp, ho, resolve, hfv, Deferred.ofValue, invoke]
 have fin : ∀ (v : Value) (w' : World), CallPost X (inner g1 env'.length) w (fun d sto' => k ⟨put env' o.dst d, sto'⟩) r (.returned v) w' → next (a.put o.dst v) w' := by
  intro v w' hp
  obtain ⟨v', d, sto', g', hv, hk, h4, e4⟩ := hp
  cases hv
  obtain ⟨g2, h5, e5⟩ := h2.back hl h4 e4
  obtain ⟨g3, h6, e6, _⟩ := h5.lay o.dst
  exact hn v w' g3 _ sto' hk h6 (e1.trans (e5.trans e6))
 unfold Oper.wp
 rw [hrun]
 rcases hcall with ⟨hc1, hc2⟩ | ⟨v, w', hc1, hc2⟩
 · rw [hc1]
   refine hc2.mono (fun e w' hp => ?_)
   have hp' := hp
   obtain ⟨v', d, sto', g', hv, _⟩ := hp'
   subst hv
   exact fin v' w' hp
 · rw [hc1]
   exact fin v w' hc2
end
end Go.Ev
namespace Go.Ev
section
variable {X : Cfg}
theorem Sim.addRow {g w env vals sto} (h : Sim X g w env vals sto) (c : Nat) : Sim X { g with φ := g.φ ++ [c] } w env vals (sto ++ [[]]) := by
 have hφ : ∀ (i b : Nat), g.φ[i]? = some b → (g.φ ++ [c])[i]? = some b := fun i b hb => by
  rw [List.getElem?_append_left (List.getElem?_eq_some_iff.1 hb).1]; exact hb
 have hm : ∀ d v, RepV X g.φ g.G w d v → RepV X (g.φ ++ [c]) g.G w d v := fun d v hr => hr.mono hφ (fun _ => Nat.le_refl _) (fun _ _ _ => rfl)
 refine ⟨h.len, fun t d v hd hv => hm _ _ (h.rep t d v hd hv), by simp [h.slen], ?_, ?_, h.kdom, h.gdom, h.glob⟩
 · intro i b cs hb hi
   rcases getElem?_snoc hi with ⟨hlt, hi⟩ | ⟨_, e⟩
   · have hb' : g.φ[i]? = some b := by
      have hb0 : (g.φ ++ [c])[i]? = some b := hb
      rwa [List.getElem?_append_left (by rw [h.slen]; exact hlt)] at hb0
     exact (h.obj i b cs hb' hi).map (fun b k => ⟨k, id, fun _ => ⟨rfl, rfl⟩⟩) hm
   · subst e; unfold SimR arrOf; exact .inl rfl
 · intro ℓ md ty l a len cap ho hmd
   refine h.own ℓ md ty l a len cap ?_ hmd
   generalize hx : D.sl md ty l = x at ho ⊢
   generalize hy : Value.slice (some a) len cap = y at ho ⊢
   cases ho with
   | leaf hd hv => exact .leaf hd hv
   | agg hd hv hj he => exact .agg hd hv hj he
   | tup hd hv hj he => exact .tup hd hv hj he
   | cell hi hb hj hv =>
    rcases getElem?_snoc hi with ⟨hlt, hi⟩ | ⟨_, e⟩
    · have hb0 : (g.φ ++ [c])[_]? = some _ := hb
      rw [List.getElem?_append_left (by rw [h.slen]; exact hlt)] at hb0
      exact .cell hi hb0 hj hv
    · subst e; simp at hj
theorem Sim.dropArr {g w env vals sto} (h : Sim X g w env vals sto) {i b : Nat} {t : Ty} {l : List t.den} (hi : sto[i]? = some [.arr t l]) (hk : g.κ b = some (.obj i)) :
 Sim X { g with κ := upd g.κ b none } w env vals (sto.set i []) := by
 refine ⟨h.len, h.rep, by simp [h.slen], ?_, ?_, ?_, h.gdom, h.glob.upd (h.glob.owned hk) _⟩
 · intro j c cs hc hj
   rcases get_set_eq hj with ⟨_, _, e⟩ | ⟨hne, hj⟩
   · subst e; unfold SimR arrOf; exact .inl rfl
   · refine (h.obj j c cs hc hj).map (fun b' k => ⟨?_, id, fun _ => ⟨rfl, rfl⟩⟩) (fun _ _ h => h)
     show upd g.κ b none b' = _
     rw [upd_ne _ _ (by intro e; subst e; rw [hk] at k; cases k; exact hne rfl)]; exact k
 · intro ℓ md ty l' a len cap ho hmd
   have ho' : Occ g.φ w env vals sto ℓ (.sl md ty l') (.slice (some a) len cap) := by
    generalize hx : D.sl md ty l' = x at ho ⊢
    generalize hy : Value.slice (some a) len cap = y at ho ⊢
    cases ho with
    | leaf hd hv => exact .leaf hd hv
    | agg hd hv hj he => exact .agg hd hv hj he
    | tup hd hv hj he => exact .tup hd hv hj he
    | cell hi' hb hj hv =>
     rcases get_set_eq hi' with ⟨_, _, e⟩ | ⟨hne, hi'⟩
     · subst e; simp at hj
     · exact .cell hi' hb hj hv
   obtain ⟨k, gg, sp⟩ := h.own ℓ md ty l' a len cap ho' hmd
   refine ⟨?_, gg, sp⟩
   show upd g.κ b none a.block = _
   rw [upd_ne _ _ (by intro e; rw [e, hk] at k; cases k; exact ho'.not_obj)]; exact k
 · intro b' ℓ hb
   by_cases e : b' = b
   · subst e; simp [upd] at hb
   · exact h.kdom b' ℓ (by simpa [upd, e] using hb)
theorem Sim.setArr {g w env vals sto} (h : Sim X g w env vals sto) {i b : Nat} {t : Ty} {l : List t.den} {C : Nat} (hi : sto[i]? = some []) (hφ : g.φ[i]? = some (arc b l.length C)) (hng : ∀ ob, (b, ob) ∉ X.glob) (hk : g.κ b = none) (hb : b < w.heap.size)
 (hg : g.G b = 0) (hle : l.length ≤ C) (hmax : C ≤ 9223372036854775807) (hcell : ∀ j, j < C * t.size → (∃ v, w.cell? ⟨b, j, none⟩ = some v) ∧ w.frozen? ⟨b, j, none⟩ = false)
 (hcon : ∀ (p : Nat) x, l[p]? = some x → ∀ (j : Nat) c, (cells t x)[j]? = some c → ∃ v, w.cell? ⟨b, p * t.size + j, none⟩ = some v ∧ RepV X g.φ g.G w c v) :
 Sim X { g with κ := upd g.κ b (some (.obj i)) } w env vals (sto.set i [.arr t l]) := by
 refine ⟨h.len, h.rep, by simp [h.slen], ?_, ?_, ?_, h.gdom, h.glob.upd hng _⟩
 · intro j c cs hc hj
   rcases get_set_eq hj with ⟨e1, _, e⟩ | ⟨hne, hj⟩
   · subst e1; subst e
     have hc' : g.φ[i]? = some c := hc
     rw [hφ] at hc'; cases hc'
     unfold SimR arrOf
     exact .inr ⟨b, C, rfl, ⟨by simp [upd], hg, hle, hmax, hcell, hcon⟩⟩
   · refine (h.obj j c cs hc hj).map (fun b' k => ⟨?_, id, fun _ => ⟨rfl, rfl⟩⟩) (fun _ _ h => h)
     show upd g.κ b _ b' = _
     rw [upd_ne _ _ (by intro e; subst e; rw [hk] at k; cases k)]; exact k
 · intro ℓ md ty l' a len cap ho hmd
   have ho' : Occ g.φ w env vals sto ℓ (.sl md ty l') (.slice (some a) len cap) := by
    generalize hx : D.sl md ty l' = x at ho ⊢
    generalize hy : Value.slice (some a) len cap = y at ho ⊢
    cases ho with
    | leaf hd hv => exact .leaf hd hv
    | agg hd hv hj he => exact .agg hd hv hj he
    | tup hd hv hj he => exact .tup hd hv hj he
    | cell hi' hb hj hv =>
     rcases get_set_eq hi' with ⟨_, _, e⟩ | ⟨hne, hi'⟩
     · subst e; subst hx
       have := arrOf_get hj (by intro _ _ h; cases h)
       simp [arrOf] at this
     · exact .cell hi' hb hj hv
   obtain ⟨k, gg, sp⟩ := h.own ℓ md ty l' a len cap ho' hmd
   refine ⟨?_, gg, sp⟩
   show upd g.κ b _ a.block = _
   rw [upd_ne _ _ (by intro e; rw [e, hk] at k; cases k)]; exact k
 · intro b' ℓ hb'
   by_cases e : b' = b
   · subst e; exact hb
   · exact h.kdom b' ℓ (by simpa [upd, e] using hb')
theorem Sim.setNil {g w env vals sto} (h : Sim X g w env vals sto) {i : Nat} {t : Ty} (hi : sto[i]? = some []) (hφ : g.φ[i]? = some 0) : Sim X g w env vals (sto.set i [.arr t []]) := by
 refine ⟨h.len, h.rep, by simp [h.slen], ?_, ?_, h.kdom, h.gdom, h.glob⟩
 · intro j c cs hc hj
   rcases get_set_eq hj with ⟨e1, _, e⟩ | ⟨hne, hj⟩
   · subst e1; subst e
     rw [hφ] at hc; cases hc
     unfold SimR arrOf
     exact .inl ⟨rfl, rfl⟩
   · exact h.obj j c cs hc hj
 · intro ℓ md ty l' a len cap ho hmd
   refine h.own ℓ md ty l' a len cap ?_ hmd
   generalize hx : D.sl md ty l' = x at ho ⊢
   generalize hy : Value.slice (some a) len cap = y at ho ⊢
   cases ho with
   | leaf hd hv => exact .leaf hd hv
   | agg hd hv hj he => exact .agg hd hv hj he
   | tup hd hv hj he => exact .tup hd hv hj he
   | cell hi' hb hj hv =>
    rcases get_set_eq hi' with ⟨_, _, e⟩ | ⟨hne, hi'⟩
    · subst e; subst hx
      have := arrOf_get hj (by intro _ _ h; cases h)
      simp [arrOf] at this
    · exact .cell hi' hb hj hv
theorem set_snoc {α : Type} (l : List α) (x y : α) {N : Nat} (h : N = l.length) : (l ++ [x]).set N y = l ++ [y] := by
 subst h; rw [List.set_append_right _ _ (Nat.le_refl _)]; simp
theorem set_set_snoc (sto : Sto) (x y z : List D) {N : Nat} (h : N = sto.length) : ((sto ++ [x]).set N y) = sto ++ [y] := set_snoc sto x y h
theorem Sim.nilRow {g w env vals sto} (h : Sim X g w env vals sto) (t : Ty) : Sim X { g with φ := g.φ ++ [0] } w env vals (sto ++ [[.arr t []]]) := by
 have h1 := h.addRow 0
 have h2 := h1.setNil (i := sto.length) (t := t) (by simp) (by show (g.φ ++ [0])[sto.length]? = _; rw [← h.slen]; simp)
 rw [set_snoc _ _ _ rfl] at h2
 exact h2
theorem Ext.phi (g : Gh) (w : World) (c : Nat) : Ext g w { g with φ := g.φ ++ [c] } w :=
 ⟨Nat.le_refl _, rfl, rfl, rfl, fun _ _ _ => rfl, fun _ _ _ => rfl, fun _ => Nat.le_refl _, fun _ _ _ => rfl, fun _ _ h => h, fun i b hb => by
  show (g.φ ++ [c])[i]? = _
  rw [List.getElem?_append_left (List.getElem?_eq_some_iff.1 hb).1]; exact hb⟩
theorem Sim.layArr {g w env vals sto} (h : Sim X g w env vals sto) {i b : Nat} {t : Ty} {l : List t.den} {C : Nat} (hi : sto[i]? = some [.arr t l]) (hA : SimA X g w i b t l C) {o : Nat} {ys : List Value} (ho : o + ys.length ≤ C * t.size) :
 Sim X { g with κ := upd g.κ b none } (w.setCells b o ys) env vals (sto.set i []) ∧ (∀ j, j < C * t.size → (∃ v, (w.setCells b o ys).cell? ⟨b, j, none⟩ = some v) ∧ (w.setCells b o ys).frozen? ⟨b, j, none⟩ = false) ∧
  b < (w.setCells b o ys).heap.size ∧ (∀ j y, ys[j]? = some y → (w.setCells b o ys).cell? ⟨b, o + j, none⟩ = some y) ∧ (∀ j, (j < o ∨ o + ys.length ≤ j) → (w.setCells b o ys).cell? ⟨b, j, none⟩ = w.cell? ⟨b, j, none⟩) ∧
  (∀ d v, RepV X g.φ g.G w d v → RepV X g.φ g.G (w.setCells b o ys) d v) ∧
  ∀ (κ' : Nat → Option Loc) (φ' : List Nat), (∀ b', b' < w.heap.size → g.κ b' = none → κ' b' = none) → (∀ (i : Nat) b, g.φ[i]? = some b → φ'[i]? = some b) → Ext g w { φ := φ', G := g.G, κ := κ' } (w.setCells b o ys) := by
 have hthere : ∀ j, j < ys.length → (w.cell? ⟨b, o + j, none⟩).isSome = true := fun j hj => by
  obtain ⟨⟨u, hu⟩, _⟩ := hA.cell (o + j) (by omega)
  rw [hu]; rfl
 have hbl : b < w.heap.size := h.kdom b _ hA.k
 generalize hw' : w.setCells b o ys = w'
 have hcin : ∀ j y, ys[j]? = some y → w'.cell? ⟨b, o + j, none⟩ = some y := fun j y hy => by
  have hj := (List.getElem?_eq_some_iff.1 hy).1
  subst hw'
  rw [World.cell?_setCells_in b _ _ w hthere j hj, ← hy, List.getElem?_eq_getElem hj]
 have hcout : ∀ b' q, (b' = b → q < o ∨ o + ys.length ≤ q) → w'.cell? ⟨b', q, none⟩ = w.cell? ⟨b', q, none⟩ := fun b' q hq => by
  subst hw'
  exact World.cell?_setCells_out b _ _ w ⟨b', q, none⟩ (fun h1 _ => hq h1)
 have hfz : ∀ x, w'.frozen? x = w.frozen? x := fun x => by subst hw'; exact World.frozen?_setCells b _ _ w x
 have hheap : ∀ k, k ≠ b → w'.heap[k]? = w.heap[k]? := by subst hw'; exact fun k hk => setCells_heap b k hk _ _ w
 have hsize : w'.heap.size = w.heap.size := by subst hw'; exact setCells_size b _ _ w
 have hstr : w'.os = w.os ∧ w'.tape = w.tape ∧ w'.output = w.output := by subst hw'; exact setCells_str b _ _ w
 have hprom : ∀ b' q, q < g.G b' → w'.cell? ⟨b', q, none⟩ = w.cell? ⟨b', q, none⟩ := fun b' q hq => hcout b' q (fun e => by subst e; rw [hA.g0] at hq; omega)
 have h1 := h.dropArr hi hA.k
 have h2 := h1.evolveX (w' := w') (G' := g.G) b (.inl (upd_same _ _ _)) (fun _ => Nat.le_refl _) (fun _ _ _ _ => rfl) hprom
  (fun b' ℓ hne _ q => ⟨hcout b' q (fun e => absurd e hne), hfz _⟩) (Nat.le_of_eq hsize.symm) (fun b' hb' => h.gdom b' (by rw [hsize] at hb'; exact hb'))
  (fun b' ob hm _ _ => hheap b' (fun e => by subst e; exact h.glob.owned hA.k ob hm))
 refine ⟨h2, fun j hj => ?_, by rw [hsize]; exact hbl, hcin, fun j hj => hcout b j (fun _ => hj), fun d v hr => hr.mono (fun _ _ h => h) (fun _ => Nat.le_refl _) hprom, fun κ' φ' hk hφ => ?_⟩
 · obtain ⟨⟨u, hu⟩, hf⟩ := hA.cell j hj
   refine ⟨?_, (hfz _).trans hf⟩
   by_cases hjo : j < o ∨ o + ys.length ≤ j
   · exact ⟨u, (hcout b j (fun _ => hjo)).trans hu⟩
   · have hlt : j - o < ys.length := by omega
     refine ⟨ys[j - o], ?_⟩
     have := hcin (j - o) _ (List.getElem?_eq_getElem hlt)
     rwa [show o + (j - o) = j by omega] at this
 · refine ⟨Nat.le_of_eq hsize.symm, hstr.1, hstr.2.1, hstr.2.2, fun b' _ hn => hheap b' ?_, hprom, fun _ => Nat.le_refl _, fun _ _ _ => rfl, hk, hφ⟩
   intro e; subst e; rw [hA.k] at hn; cases hn
end
end Go.Ev
namespace Go.Ev
section
variable {P : Program} {X : Cfg} {R : Type} {w : World}
variable {g : Gh} {env : List D} {sto : Sto} {o : Oper} {a : Act} {k : St → Option R} {r : R} {cx : Cx}
theorem arrAt_some {p} {i : Nat} (h : arrAt sto i = some p) : sto[i]? = some [.arr p.1 p.2] := by
 unfold arrAt at h
 have := arrOf_some h
 rw [← this]
 have hl : i < sto.length := by
  rcases Nat.lt_or_ge i sto.length with h' | h'
  · exact h'
  · rw [List.getD, List.getElem?_eq_none h'] at h; cases h
 simp [List.getD, hl]
def ArrV (X : Cfg) (g : Gh) (w : World) (i : Nat) (t : Ty) (l : List t.den) (ao : Option Addr) (cap : Nat) : Prop :=
 (ao = none ∧ l = [] ∧ cap = 0) ∨ ∃ b C, ao = some ⟨b, 0, none⟩ ∧ g.φ[i]? = some (arc b l.length C) ∧ cap ≤ C ∧ SimA X g w i b t l C
theorem Sim.arr_view {vals} (h : Sim X g w env vals sto) {i : Nat} {t : Ty} {l : List t.den} (hi : sto[i]? = some [.arr t l]) {v : Value} (hr : RepV X g.φ g.G w (.hw i) v) :
 ∃ ao cap, v = .slice ao l.length cap ∧ l.length ≤ cap ∧ cap ≤ 9223372036854775807 ∧ ArrV X g w i t l ao cap := by
 obtain ⟨c, hc, hR⟩ := h.sto_blk hi
 unfold SimR arrOf at hR
 dsimp only at hR
 cases hr with
 | hwN h0 =>
  rw [hc] at h0; cases h0
  rcases hR with ⟨_, e⟩ | ⟨b, C, e, _⟩
  · subst e; exact ⟨none, 0, rfl, Nat.le_refl _, by omega, .inl ⟨rfl, rfl, rfl⟩⟩
  · exact absurd e.symm arc_ne
 | hw h0 hn hcap =>
  rw [hc] at h0; cases h0
  rcases hR with ⟨e, _⟩ | ⟨b, C, e, hA⟩
  · exact absurd e arc_ne
  · obtain ⟨rfl, rfl, rfl⟩ := arc_inj e
    have := hA.max
    exact ⟨_, _, rfl, hn, by omega, .inr ⟨_, _, rfl, hc, hcap, hA⟩⟩
theorem Sim.arr_ep {vals} (h : Sim X g w env vals sto) {i : Nat} {t : Ty} {l : List t.den} (hi : sto[i]? = some [.arr t l]) {ty : Ty} {kk off : Nat} {v : Value} (hr : RepV X g.φ g.G w (.ep i ty kk off) v) (hs : ty.size = t.size) :
 ∃ b C, v = .pointer (some ⟨b, kk * t.size + off, none⟩) ∧ g.φ[i]? = some (arc b l.length C) ∧ SimA X g w i b t l C := by
 obtain ⟨c, hc, hR⟩ := h.sto_blk hi
 unfold SimR arrOf at hR
 dsimp only at hR
 cases hr with
 | ep h0 =>
  rw [hc] at h0; cases h0
  rcases hR with ⟨e, _⟩ | ⟨b, C, e, hA⟩
  · exact absurd e arc_ne
  · obtain ⟨rfl, rfl, rfl⟩ := arc_inj e
    rw [hs]
    exact ⟨_, _, rfl, hc, hA⟩
theorem ArrV.row {i : Nat} {t : Ty} {l : List t.den} {ao : Option Addr} {cap : Nat} (h : ArrV X g w i t l ao cap) :
 ∃ news, RowOk X g.φ g.G w t l news ∧ ∀ w', w'.heap = w.heap → (Builtin.firstCells t.size l.length (.slice ao l.length cap)).run P w' = .ok news.toArray w' := by
 rcases h with ⟨rfl, rfl, rfl⟩ | ⟨b, C, rfl, _, _, hA⟩
 · exact ⟨[], ⟨by simp, fun i x hx => by simp at hx⟩, fun w' _ => rfl⟩
 · let vs : Nat → Value := fun j => (w.cell? ⟨b, j, none⟩).getD undef
   refine ⟨(List.range (l.length * t.size)).map vs, ⟨by simp, fun i x hx j c hc' => ?_⟩, fun w' hw' => ?_⟩
   · have hi := (List.getElem?_eq_some_iff.1 hx).1
     have hj : j < t.size := by rw [← cells_length t x]; exact (List.getElem?_eq_some_iff.1 hc').1
     obtain ⟨v, hv, hr⟩ := hA.con i x hx j c hc'
     refine ⟨_, range_get vs (cell_idx hi hj), ?_⟩
     simp only [vs, hv]; exact hr
   · refine run_firstCells_some (P := P) w' t.size l.length ⟨b, 0, none⟩ l.length cap _ (by simp) (fun j v hv => ?_)
     have hj : j < l.length * t.size := by have := (List.getElem?_eq_some_iff.1 hv).1; simpa using this
     rw [range_get vs hj] at hv
     have hjC : j < C * t.size := Nat.lt_of_lt_of_le hj (Nat.mul_le_mul_right _ hA.le)
     obtain ⟨⟨u, hu⟩, _⟩ := hA.cell j hjC
     have e : w'.cell? ⟨b, j, none⟩ = w.cell? ⟨b, j, none⟩ := by simp only [World.cell?, hw']
     rw [Addr.add_mid, Nat.zero_add, e, hu]
     simp only [vs, hu] at hv; exact hv
theorem op_xlen (hcx : CxOk P X cx) {x : Operand} {t : TypeId} (ho : o.op = .call { callee := .builtin .len, args := #[x], argTypes := #[t] }) (hs : Sim X g w env a.tmps.toList sto) {te : TE} (ht : look cx.tab t = some te) {e : TypeId} (hd : te.d = .slice e)
 {i : Nat} (hx : rd env x = .hw i) {p} (ha : arrAt sto i = some p) (hk : k ⟨put env o.dst (.int .i64 p.2.length), sto⟩ = some r) : OpOk P X o a w g k r := by
 have hu := desc_slice hcx ht hd
 obtain ⟨ao, cap, hv, h1, h2, _⟩ := hs.arr_view (arrAt_some ha) (hx ▸ hs.read x)
 refine opOk_pure hs (.int .i64 p.2.length) _ ?_ (.int (by simp only [InR, lo, hi]; omega)) rfl hk
 simp [execOp, ho, resolve, invoke, builtin, Builtin.len_, run_underlying hu, hv, goInt]
theorem op_xindex (hcx : CxOk P X cx) (t : TypeId) (x ix : Operand) (ho : o.op = .indexAddr t x ix) (hs : Sim X g w env a.tmps.toList sto) {i : Nat} {kd : IntKind} {n : Int}
 (hx : rd env x = .hw i) {p} (ha : arrAt sto i = some p) (hty : tyOk cx t (.sl .ro p.1 p.2) = true) (hi : rd env ix = .int kd n) {e} (hn : nth p.2 n = some e)
 (hk : k ⟨put env o.dst (.ep i p.1 n.toNat 0), sto⟩ = some r) : OpOk P X o a w g k r := by
 obtain ⟨el, te, hu, _, hte, hts⟩ := tyOk_sl hcx hty
 obtain ⟨h0, h1, h2⟩ := nth_spec hn
 obtain ⟨ao, cap, hv, hl1, hl2, hA⟩ := hs.arr_view (arrAt_some ha) (hx ▸ hs.read x)
 obtain ⟨hvi, _⟩ := rep_int (hi ▸ hs.read ix)
 rcases hA with ⟨_, e0, _⟩ | ⟨b, C, rfl, hφ, _, _⟩
 · rw [e0] at h2; simp at h2
 · refine opOk_pure hs (.pointer (some ⟨b, n.toNat * p.1.size + 0, none⟩)) _ ?_ (.ep hφ) rfl hk
   simp [execOp, ho, hv, hvi, Instr.indexAt, asIntOf, run_underlying hu, h0, h1, run_sizeOf' hte, hts, Addr.add_mid]
theorem op_xfield (hcx : CxOk P X cx) (t : TypeId) (x : Operand) (f : Nat) (ho : o.op = .fieldAddr t x f) (hs : Sim X g w env a.tmps.toList sto) {te : TE} {fs : List FI} {fi : FI}
 (ht : look cx.tab t = some te) (htd : te.d = .struct fs) (hfi : fs[f]? = some fi) (hz : fi.size ≠ 0) {i kk off : Nat} {ty : Ty} (hx : rd env x = .ep i ty kk off)
 (hk : k ⟨put env o.dst (.ep i ty kk (off + fi.off)), sto⟩ = some r) : OpOk P X o a w g k r := by
 have hr := hs.read x
 rw [hx] at hr
 generalize hv : a.eval x = v at hr
 cases hr with
 | ep hφ =>
  rename_i b n C
  obtain ⟨F, hu, hF⟩ := desc_struct hcx ht htd
  obtain ⟨fl, h1, h2, h3, _⟩ := field_get hF hfi
  refine opOk_pure hs (.pointer (some ⟨b, kk * ty.size + (off + fi.off), none⟩)) _ ?_ (.ep hφ) rfl hk
  simp [execOp, ho, hv, Instr.fieldAt, run_underlying hu, h1, Instr.sureAddr, fieldPlace, h3, hz, h2, Addr.add_mid, Nat.add_assoc]
theorem op_xload (t : TypeId) (x : Operand) (ho : o.op = .load t x) (hs : Sim X g w env a.tmps.toList sto) {e : TE} (he : TEok P t e) {i kk off : Nat} {ty : Ty} {p} (ha : arrAt sto i = some p)
 (hx : rd env x = .ep i ty kk off) (hsz : ty.size = p.1.size) (hle : off + e.size ≤ p.1.size) {y} (hy : p.2[kk]? = some y)
 (hk : k ⟨put env o.dst (ofCells e.agg ((((cells p.1 y).drop off).take e.size).map D.dup1)), sto⟩ = some r) : OpOk P X o a w g k r := by
 obtain ⟨b, C, hv, _, hA⟩ := hs.arr_ep (arrAt_some ha) (hx ▸ hs.read x) hsz
 have hcl := cells_length p.1 y
 obtain ⟨v, hrun, hr⟩ := run_loadAt (X := X) (φ := g.φ) (G := g.G) (w := w) he (b := b) (off := kk * p.1.size + off) (cs := ((cells p.1 y).drop off).take e.size) (by simp; omega) (fun j c hj => by
  have hj2 : j < e.size := by have := (List.getElem?_eq_some_iff.1 hj).1; simp at this; omega
  rw [List.getElem?_take] at hj
  simp only [hj2, if_true, List.getElem?_drop] at hj
  obtain ⟨v, h1, h2⟩ := hA.con kk y hy (off + j) c hj
  exact ⟨v, by rw [Nat.add_assoc]; exact h1, h2⟩)
 exact opOk_pure hs v _ (by simp [execOp, ho, hv, hrun]) hr (ofCells_free _ _) hk
theorem idx_ne {p q sz j m : Nat} (hpq : p ≠ q) (hj : j < sz) (hm : m < sz) : p * sz + j ≠ q * sz + m := by
 intro h
 rcases Nat.lt_or_gt_of_ne hpq with h' | h'
 · have : (p + 1) * sz ≤ q * sz := Nat.mul_le_mul_right _ h'
   rw [Nat.succ_mul] at this; omega
 · have : (q + 1) * sz ≤ p * sz := Nat.mul_le_mul_right _ h'
   rw [Nat.succ_mul] at this; omega
theorem op_xstore (t : TypeId) (x y : Operand) (ho : o.op = .store t x y) (hs : Sim X g w env a.tmps.toList sto) {e : TE} (he : TEok P t e) {i kk off : Nat} {ty : Ty} {p} (ha : arrAt sto i = some p)
 (hx : rd env x = .ep i ty kk off) (hsz : ty.size = p.1.size) (hle : off + e.size ≤ p.1.size) (hf : fits (rd env y).cells e.size = true) {old} (hold : p.2[kk]? = some old) {z} (hz : decP p.1 (splice (cells p.1 old) off (rd env y).cells) = some (z, []))
 (hk : k ⟨put (left env y) o.dst (.tup []), sto.set i [.arr p.1 (p.2.set kk z)]⟩ = some r) : OpOk P X o a w g k r := by
 obtain ⟨hlen, hlv, h1⟩ := fits_spec hf
 have hne : (rd env y).cells ≠ [] := by intro e0; rw [e0] at hlen; simp at hlen; omega
 have hi := arrAt_some ha
 obtain ⟨b, C, hv, hφ, hA⟩ := hs.arr_ep hi (hx ▸ hs.read x) hsz
 obtain ⟨hcz, hcr⟩ := cells_rep (hs.read y) hne
 have hkl := (List.getElem?_eq_some_iff.1 hold).1
 have hcl := cells_length p.1 old
 have hkC : kk * p.1.size + p.1.size ≤ C * p.1.size := by
  rw [← Nat.succ_mul]; exact Nat.mul_le_mul_right _ (Nat.lt_of_lt_of_le hkl hA.le)
 have hyl : (a.eval y).cells.toList.length = e.size := by rw [Array.length_toList, hcz, hlen]
 have hfit : kk * p.1.size + off + (a.eval y).cells.toList.length ≤ C * p.1.size := by omega
 obtain ⟨g1, h2, e1, eφ, eG⟩ := hs.take y
 have h2 := h2.drop
 have hl2 : (left env y).length = env.length := by cases y <;> simp [left]
 obtain ⟨κ0, hA1⟩ : ∃ κ0 : Unit, SimA X g1 w i b p.1 p.2 C := ⟨(), by
  obtain ⟨c, hc, hR⟩ := h2.sto_blk hi
  unfold SimR arrOf at hR; dsimp only at hR
  rw [eφ, hφ] at hc; cases hc
  rcases hR with ⟨e0, _⟩ | ⟨b', C', e0, hA'⟩
  · exact absurd e0 arc_ne
  · obtain ⟨rfl, _, rfl⟩ := arc_inj e0; exact hA'⟩
 obtain ⟨h3, hcell3, hb3, hin, hout, hmono, hext⟩ := h2.layArr hi hA1 hfit
 have hzlen : (p.2.set kk z).length = p.2.length := by simp
 have hnew : ∀ (j : Nat) c, (cells p.1 z)[j]? = some c → ∃ v, (w.setCells b (kk * p.1.size + off) (a.eval y).cells.toList).cell? ⟨b, kk * p.1.size + j, none⟩ = some v ∧ RepV X g1.φ g1.G (w.setCells b (kk * p.1.size + off) (a.eval y).cells.toList) c v := by
  have hdec := (decP_sound (X := X) (φ := g1.φ) (G := g1.G) (w := w.setCells b (kk * p.1.size + off) (a.eval y).cells.toList) _ _ _ _ hz).2.2
   (fun j => ((w.setCells b (kk * p.1.size + off) (a.eval y).cells.toList).cell? ⟨b, kk * p.1.size + j, none⟩).getD undef) (fun j c hj hc => by
    by_cases hjo : j < off ∨ off + (rd env y).cells.length ≤ j
    · rw [splice_get_out (by rw [hcl, hlen]; exact hle) hjo] at hc
      obtain ⟨u, hu, hr⟩ := hA1.con kk old hold j c hc
      have := hout (kk * p.1.size + j) (by rw [hyl, ← hlen]; omega)
      rw [this, hu]; exact hmono _ _ hr
    · obtain ⟨j', rfl⟩ : ∃ j', j = off + j' := ⟨j - off, by omega⟩
      rw [splice_get_in (by rw [hcl, hlen]; exact hle) (by omega)] at hc
      obtain ⟨u, hu, hr⟩ := hcr j' c hc
      have := hin j' u (by simpa using hu)
      rw [show kk * p.1.size + (off + j') = kk * p.1.size + off + j' by omega, this]
      rw [← eφ, ← eG] at hr
      exact hmono _ _ hr)
  intro j c hj
  have hjs : j < p.1.size := by rw [← cells_length p.1 z]; exact (List.getElem?_eq_some_iff.1 hj).1
  obtain ⟨⟨u, hu⟩, _⟩ := hcell3 (kk * p.1.size + j) (by omega)
  exact ⟨u, hu, by have := hdec j c hj; rw [hu] at this; exact this⟩
 have h4 := h3.setArr (i := i) (b := b) (t := p.1) (l := p.2.set kk z) (C := C) (by simp [(List.getElem?_eq_some_iff.1 hi).1]) (by rw [hzlen]; show g1.φ[i]? = _; rw [eφ]; exact hφ) (h2.glob.owned hA1.k) (upd_same _ _ _) hb3 hA1.g0 (by rw [hzlen]; exact hA1.le) hA1.max hcell3
  (fun q x hq j c hj => by
   rcases get_set_eq hq with ⟨rfl, _, rfl⟩ | ⟨hne, hq⟩
   · exact hnew j c hj
   · have hjs : j < p.1.size := by rw [← cells_length p.1 x]; exact (List.getElem?_eq_some_iff.1 hj).1
     obtain ⟨u, hu, hr⟩ := hA1.con q x hq j c hj
     refine ⟨u, ?_, hmono _ _ hr⟩
     rw [hout _ ?_, hu]
     rw [hyl]
     have hlt := (List.getElem?_eq_some_iff.1 hq).1
     rcases Nat.lt_or_gt_of_ne hne with h' | h'
     · have : (kk + 1) * p.1.size ≤ q * p.1.size := Nat.mul_le_mul_right _ h'
       rw [Nat.succ_mul] at this; omega
     · have : (q + 1) * p.1.size ≤ kk * p.1.size := Nat.mul_le_mul_right _ h'
       rw [Nat.succ_mul] at this; omega)
 rw [List.set_set] at h4
 have h5 := h4.put o.dst (.tup []) undef (.tup rfl (fun j c hj => by simp at hj)) rfl
 obtain ⟨inf, zz, hinf, hs0, _⟩ := he.info
 have hcells : (storeCells ⟨b, kk * p.1.size + off, none⟩ (a.eval y).cells.toList).run P w = .ok () (w.setCells b (kk * p.1.size + off) (a.eval y).cells.toList) := by
  have := run_storeCells_cells (P := P) b (kk * p.1.size + off) (a.eval y).cells.toList 0 w (fun j hj => by
   obtain ⟨⟨u, hu⟩, _⟩ := hA.cell (kk * p.1.size + off + j) (by omega)
   simp [hu]) (fun j hj => by
   obtain ⟨_, hu⟩ := hA.cell (kk * p.1.size + off + j) (by omega)
   simpa using hu)
   (fun u hu => by
    obtain ⟨j, hj⟩ := List.mem_iff_getElem?.1 hu
    have hjl : j < (rd env y).cells.length := by
     have := (List.getElem?_eq_some_iff.1 hj).1
     rw [Array.length_toList, hcz] at this; exact this
    obtain ⟨u', hu', hr⟩ := hcr j ((rd env y).cells[j]) (by simp)
    have : u = u' := by
     have hj' : (a.eval y).cells[j]? = some u := by simpa using hj
     rw [hj'] at hu'; exact Option.some.inj hu'
    subst this
    exact rep_one hr (leaves_get hlv j _ (by simp)))
  simpa using this
 refine ⟨undef, _, _, _, _, .inr ⟨?_, rfl⟩, hk, h5, e1.trans (hext _ _ (fun b' _ hn => ?_) (fun _ _ h => h))⟩
 · have hs2 : (a.eval y).cells.size = inf.size := by rw [hcz, hlen, hs0]
   simp [execOp, ho, hv, Instr.storeAt, Instr.sureAddr, storeVar, sizeOf, typeInfo, hinf, hs2, hcells, Sem.run_bind]
 · have hne : b' ≠ b := by intro e0; subst e0; rw [hA1.k] at hn; cases hn
   show upd (upd g1.κ b none) b _ b' = none
   rw [upd_ne _ _ hne, upd_ne _ _ hne]; exact hn
theorem op_xnil (x : Operand) (ho : o.op = .move x ∨ o.op = .assign x) (hs : Sim X g w env a.tmps.toList sto) (t : Ty) {d : Tmp} (hd : o.dst = some d) (hx : rd env x = .nils)
 (hk : k ⟨env.set d (.hw sto.length), sto ++ [[.arr t []]]⟩ = some r) : OpOk P X o a w g k r := by
 have hr := hs.read x
 rw [hx] at hr
 generalize hv : a.eval x = v at hr
 cases hr
 have h1 := hs.nilRow t
 have h2 := h1.put o.dst (.hw sto.length) (.slice none 0 0) (.hwN (by show (g.φ ++ [0])[sto.length]? = _; rw [← hs.slen]; simp)) rfl
 refine ⟨.slice none 0 0, w, _, _, _, .inl ?_, hk, (by rw [hd] at h2 ⊢; exact h2), .phi g w 0⟩
 rcases ho with ho | ho <;> simp [execOp, ho, hv]
theorem Sim.reobj {vals} (h : Sim X g w env vals sto) {i : Nat} {cs cs' : List D} (hi : sto[i]? = some cs) (hrow : ∀ c, g.φ[i]? = some c → SimR X g w i c cs → SimR X g w i c cs')
 (hsl : ∀ (j : Nat) md t l, cs'[j]? = some (.sl md t l) → cs[j]? = some (.sl md t l)) : Sim X g w env vals (sto.set i cs') := by
 refine ⟨h.len, h.rep, by simp [h.slen], ?_, ?_, h.kdom, h.gdom, h.glob⟩
 · intro j c q hc hj
   rcases get_set_eq hj with ⟨e1, _, e⟩ | ⟨hne, hj⟩
   · subst e1; subst e; exact hrow c hc (h.obj i c cs hc hi)
   · exact h.obj j c q hc hj
 · intro ℓ md ty l' a len cap ho hmd
   refine h.own ℓ md ty l' a len cap ?_ hmd
   generalize hx : D.sl md ty l' = x at ho ⊢
   generalize hy : Value.slice (some a) len cap = y at ho ⊢
   cases ho with
   | leaf hd hv => exact .leaf hd hv
   | agg hd hv hj he => exact .agg hd hv hj he
   | tup hd hv hj he => exact .tup hd hv hj he
   | cell hi' hb hj hv =>
    rcases get_set_eq hi' with ⟨e1, _, e⟩ | ⟨hne, hi'⟩
    · subst e1; subst e; subst hx; exact .cell hi hb (hsl _ _ _ _ hj) hv
    · exact .cell hi' hb hj hv
theorem Sim.wrapCell {vals} (h : Sim X g w env vals sto) {i j : Nat} {cs : List D} (hi : sto[i]? = some cs) (hj : cs[j]? = some .nils) (t : Ty) :
 Sim X { g with φ := g.φ ++ [0] } w env vals (sto.set i (cs.set j (.hw sto.length)) ++ [[.arr t []]]) := by
 have h1 := h.nilRow t
 have hil := (List.getElem?_eq_some_iff.1 hi).1
 have h2 := h1.reobj (i := i) (cs := cs) (cs' := cs.set j (.hw sto.length)) (by rw [List.getElem?_append_left hil]; exact hi) (fun c hc hR => ?_) (fun j' md t l hj' => ?_)
 · rw [List.set_append_left _ _ hil] at h2; exact h2
 · obtain ⟨k, g0, cell⟩ := hR.get hj (by intro _ _ h; cases h)
   have hcell' : ∀ (j' : Nat) c', (cs.set j (.hw sto.length))[j']? = some c' → ∃ u, w.cell? ⟨c, j', none⟩ = some u ∧ w.frozen? ⟨c, j', none⟩ = false ∧ RepV X (g.φ ++ [0]) g.G w c' u := by
    intro j' c' hj'
    rcases get_set_eq hj' with ⟨e1, _, e⟩ | ⟨_, hj'⟩
    · subst e1; subst e
      obtain ⟨u, h1, h2, h3⟩ := cell j _ hj
      refine ⟨u, h1, h2, ?_⟩
      cases h3
      exact .hwN (by rw [← h.slen]; simp)
    · exact cell j' c' hj'
   exact SimR.ofO ⟨k, g0, hcell'⟩ (arrOf_rep (f := fun j => (w.cell? ⟨c, j, none⟩).getD undef) (fun j c hj => by obtain ⟨u, hu, _, hr⟩ := hcell' j c hj; rw [hu]; exact hr))
 · rcases get_set_eq hj' with ⟨_, _, e⟩ | ⟨_, hj'⟩
   · cases e
   · exact hj'
theorem Sim.wrapAll {vals} {i : Nat} : ∀ (l : List (Nat × Ty)) {g : Gh} {A : Sto} {cs : List D}, Sim X g w env vals A → A[i]? = some cs → ∃ g', Sim X g' w env vals (A.set i (wrapAll l A.length cs).1 ++ (wrapAll l A.length cs).2) ∧ Ext g w g' w
 | [], g, A, cs, h, hi => by
  refine ⟨g, ?_, .refl _ _⟩
  have e : A.set i cs = A := by
   apply List.ext_getElem?; intro q
   by_cases e : i = q
   · subst e; rw [List.getElem?_set_self (List.getElem?_eq_some_iff.1 hi).1, hi]
   · rw [List.getElem?_set_ne e]
  simp only [Ev.wrapAll, List.append_nil, e]; exact h
 | (j, t) :: r, g, A, cs, h, hi => by
  unfold Ev.wrapAll
  split
  · rename_i hj
    have h1 := h.wrapCell hi hj t
    have hil := (List.getElem?_eq_some_iff.1 hi).1
    obtain ⟨g2, h2, e2⟩ := Sim.wrapAll r h1 (cs := cs.set j (.hw A.length)) (by rw [List.getElem?_append_left (by simpa using hil)]; simp [hil])
    refine ⟨g2, ?_, (Ext.phi g w 0).trans e2⟩
    simp only [List.length_append, List.length_set, List.length_singleton] at h2
    rw [List.set_append_left _ _ (by simpa using hil), List.set_set] at h2
    simpa [List.append_assoc] using h2
  · exact Sim.wrapAll r h hi
theorem op_xbox (t : TypeId) (x : Operand) (ho : o.op = .box t x) (hs : Sim X g w env a.tmps.toList sto) (h1 : (rd env x).cells ≠ []) (l : List (Nat × Ty))
 (hk : k ⟨put (left env x) o.dst (.ptr sto.length 0), sto ++ ((wrapAll l (sto.length + 1) (rd env x).cells).1 :: (wrapAll l (sto.length + 1) (rd env x).cells).2)⟩ = some r) : OpOk P X o a w g k r := by
 obtain ⟨g0, h0, e0, _⟩ := hs.take x
 obtain ⟨g1, h2, e1⟩ := h0.bury h1 t
 obtain ⟨g2, h3, e2, _⟩ := h2.lay o.dst
 obtain ⟨g3, h4, e3⟩ := Sim.wrapAll (i := sto.length) l h3 (cs := (rd env x).cells) (by simp)
 simp only [List.length_append, List.length_singleton] at h4
 rw [set_snoc _ _ _ rfl, List.append_assoc, List.singleton_append] at h4
 refine ⟨_, _, g3, _, _, .inl ?_, hk, h4, e0.trans (e1.trans (e2.trans e3))⟩
 simp [execOp, ho, Instr.box, newVar, newRow]
theorem Sim.deadRow {vals} (h : Sim X g w env vals sto) {i : Nat} {cs : List D} (hi : sto[i]? = some cs) : Sim X g w env vals (sto.set i []) :=
 h.reobj hi (fun c _ _ => by unfold SimR arrOf; exact .inl rfl) (fun j md t l hj => by simp at hj)
theorem Sim.seize {vals} (h : Sim X g w env vals sto) {i b : Nat} {t : Ty} {l : List t.den} {C : Nat} (hi : sto[i]? = some [.arr t l]) (hA : SimA X g w i b t l C) {l' : List t.den} (hl : l'.length ≤ C)
 (hcon : ∀ (p : Nat) x, l'[p]? = some x → l[p]? = some x) :
 Sim X { φ := g.φ ++ [arc b l'.length C], G := g.G, κ := upd (upd g.κ b none) b (some (.obj sto.length)) } w env vals (sto.set i [] ++ [[.arr t l']]) := by
 have h1 := (h.dropArr hi hA.k).addRow (arc b l'.length C)
 have hφ : ∀ (i b' : Nat), g.φ[i]? = some b' → (g.φ ++ [arc b l'.length C])[i]? = some b' := fun i b' hb => by
  rw [List.getElem?_append_left (List.getElem?_eq_some_iff.1 hb).1]; exact hb
 have h2 := h1.setArr (i := sto.length) (b := b) (t := t) (l := l') (C := C) (by simp) (by show (g.φ ++ _)[sto.length]? = _; rw [← h.slen]; simp) (h.glob.owned hA.k) (upd_same _ _ _) (h.kdom b _ hA.k) hA.g0 hl hA.max hA.cell
  (fun q x hq j c hj => by
   obtain ⟨v, hv, hr⟩ := hA.con q x (hcon q x hq) j c hj
   exact ⟨v, hv, hr.mono hφ (fun _ => Nat.le_refl _) (fun _ _ _ => rfl)⟩)
 rw [set_snoc _ _ _ (by simp)] at h2
 exact h2
theorem take_get? {α : Type} {l : List α} {n p : Nat} {x : α} (h : (l.take n)[p]? = some x) : l[p]? = some x := by
 rw [List.getElem?_take] at h
 split at h
 · exact h
 · cases h
theorem op_xslice (hcx : CxOk P X cx) (t : TypeId) (x : Operand) (lo hi : Option Operand) (ho : o.op = .slice t x lo hi none) (hs : Sim X g w env a.tmps.toList sto) {i : Nat} (hx : rd env x = .hw i) {F : (D → Sto → Option R) → Option R}
 (hF : xSlice cx t o sto i (lo.map (rd env)) (hi.map (rd env)) = some F) (h : F (fun d s => k ⟨put env o.dst d, s⟩) = some r) : OpOk P X o a w g k r := by
 unfold xSlice at hF
 split at hF
 · rename_i p ha
   split at hF
   · rename_i hty
     obtain ⟨e, te, hu, _, hte, hts⟩ := tyOk_sl hcx hty
     have hsz := run_sizeOf' hte w
     rw [hts] at hsz
     obtain ⟨ao, cap, hv, hlc, hmax, hA⟩ := hs.arr_view (arrAt_some ha) (hx ▸ hs.read x)
     have hrun : ∀ hh lw, (Instr.sliceBounds true p.2.length cap (lo.map a.eval) (hi.map a.eval) none).run P w = .ok (lw, hh, cap) w →
      (execOp a.eval o).run P w = .ok (.value (.slice (if cap = lw then ao else ao.map (·.add (lw * p.1.size))) (hh - lw) (cap - lw))) w := by
      intro hh lw h4
      simp [execOp, ho, Instr.sliceAt, run_underlying hu, hv, Instr.slice, h4, hsz]
     split at hF
     · rename_i hlo _
       cases hF
       obtain rfl : lo = none := by cases lo <;> first | rfl | cases hlo
       have h' : (optK (hi.map (rd env)) p.2.length p.2.length fun h => optK ((none : Option Operand).map (rd env)) 0 h fun _ => k ⟨put env o.dst (.hw sto.length), sto.set i [] ++ [[.arr p.1 (p.2.take h)]]⟩) = some r := h
       obtain ⟨hh, lw, h1, h2, h3, h4⟩ := bounds_sound (P := P) (lo := none) (isS := true) hs hlc h'
       have hlw : lw = 0 := by
        cases hi <;> simp [Instr.sliceBounds] at h4
        · exact h4.1.symm
        · rename_i q
          have := h4
          revert this
          cases (Instr.sliceBound (a.eval q) cap .sliceAcap).run P w with
          | ok n w2 => intro h; simp at h; exact h.1.1.symm
          | _ => intro h; cases h
       subst hlw
       have hr := hrun hh 0 h4
       simp only [Nat.sub_zero] at hr
       have htl : (p.2.take hh).length = hh := by simp; omega
       rcases hA with ⟨rfl, hnil, rfl⟩ | ⟨b, C, rfl, hφ, hcC, hA⟩
       · have hh0 : hh = 0 := by rw [hnil] at h3; simpa using h3
         subst hh0
         have h5 := (hs.deadRow (arrAt_some ha)).nilRow p.1
         have h6 := h5.put o.dst (.hw sto.length) (.slice none 0 0) (.hwN (by show (g.φ ++ [0])[sto.length]? = _; rw [← hs.slen]; simp)) rfl
         refine ⟨_, w, _, _, _, .inl (by simpa using hr), h1, ?_, .phi g w 0⟩
         rw [List.take_zero]; exact h6
       · have h5 := hs.seize (arrAt_some ha) hA (l' := p.2.take hh) (by rw [htl]; have := hA.le; omega) (fun q x hq => take_get? hq)
         have hN : (g.φ ++ [arc b (p.2.take hh).length C])[sto.length]? = some (arc b hh C) := by rw [← hs.slen, htl]; simp
         have h6 := h5.put o.dst (.hw sto.length) (.slice (some ⟨b, 0, none⟩) hh cap) (.hw hN (by omega) hcC) rfl
         refine ⟨_, w, _, _, _, .inl ?_, h1, h6, ⟨Nat.le_refl _, rfl, rfl, rfl, fun _ _ _ => rfl, fun _ _ _ => rfl, fun _ => Nat.le_refl _, fun _ _ _ => rfl, fun b' _ hn => ?_, fun i b' hb => ?_⟩⟩
         · rw [hr]; simp [Addr.add_mid]
         · have hne : b' ≠ b := by intro e0; subst e0; rw [hA.k] at hn; cases hn
           show upd (upd g.κ b none) b _ b' = none
           rw [upd_ne _ _ hne, upd_ne _ _ hne]; exact hn
         · show (g.φ ++ _)[i]? = _
           rw [List.getElem?_append_left (List.getElem?_eq_some_iff.1 hb).1]; exact hb
     · cases hF
       obtain ⟨hh, lw, h1, h2, h3, h4⟩ := bounds_sound (P := P) (isS := true) hs hlc h
       have hr := hrun hh lw h4
       refine opOk_pure hs _ _ hr ?_ rfl h1
       by_cases hm : hh - lw = 0
       · rw [hm]; exact .hdE
       · rcases hA with ⟨_, hnil, _⟩ | ⟨b, C, rfl, hφ, hcC, hA⟩
         · rw [hnil] at h3; simp at h3; omega
         · rw [if_neg (by omega)]
           have e : (some (⟨b, 0, none⟩ : Addr)).map (·.add (lw * p.1.size)) = some ⟨b, lw * p.1.size, none⟩ := by simp [Addr.add_mid]
           rw [e]
           exact .hd hφ (by omega) (by omega) (by omega)
   · cases hF
 · cases hF
theorem zeros_list (z : Value) (n : Nat) : (Builtin.zeroCells z.cells n).toList.length = n * z.cells.size := by simp [Builtin.zeroCells]
theorem op_xclear (hcx : CxOk P X cx) {x : Operand} {t : TypeId} (ho : o.op = .call { callee := .builtin .clear, args := #[x], argTypes := #[t] }) (hs : Sim X g w env a.tmps.toList sto) {i lo n : Nat} {ty : Ty} (hx : rd env x = .hd i ty lo n)
 {p0} (ha0 : arrAt sto i = some p0) (hty : ty.size = p0.1.size) {F : (D → Sto → Option R) → Option R} (hF : xClear cx t sto i lo n = some F) (h : F (fun d s => k ⟨put env o.dst d, s⟩) = some r) : OpOk P X o a w g k r := by
 unfold xClear at hF
 simp only [ha0] at hF
 generalize hp : p0 = p at *
 split at hF
 · rename_i e _ _ _ _ _ ht
   have hu := desc_slice hcx ht rfl
   split at hF
   · rename_i d0 sz by0 ag0 ty0 z0 he
     have hte := hcx.tab _ _ he
     split at hF
     · rename_i hsz hdec
       rename_i x0
       cases hF
       have hsz := Nat.eq_of_beq_eq_true hsz
       simp only at h
       split at h
       · rename_i hle
         have hle := Nat.le_of_ble_eq_true hle
         have hi := arrAt_some ha0
         obtain ⟨inf, zv, hinf, his, _, hiz, hzl⟩ := hte.info
         obtain ⟨_, _, h1s, _⟩ := hte.ty _ rfl
         simp only at h1s his hzl
         have hzv : ∀ w, (zeroValue e).run P w = .ok zv w := run_zero hinf hiz
         have same : n = 0 → (∃ ao cap, a.eval x = .slice ao 0 cap) → OpOk P X o a w g k r := by
          rintro hn ⟨ao, cap, hv⟩
          subst hn
          have e0 : sto.set i [.arr p.1 (p.2.take lo ++ (List.replicate 0 x0 ++ p.2.drop (lo + 0)))] = sto := by
           simp only [List.replicate_zero, List.nil_append, Nat.add_zero, List.take_append_drop]
           apply List.ext_getElem?; intro q
           by_cases e : i = q
           · subst e; rw [List.getElem?_set_self (List.getElem?_eq_some_iff.1 hi).1, hi]
           · rw [List.getElem?_set_ne e]
          rw [e0] at h
          have h5 := hs.put o.dst (.tup []) (.tuple #[]) (.tup rfl (fun j c hj => by simp at hj)) rfl
          refine ⟨_, w, _, _, _, .inl ?_, h, h5, .refl _ _⟩
          cases ao <;> simp [execOp, ho, resolve, invoke, builtin, Builtin.clear_, run_underlying hu, hv]
         have hr := hs.read x
         rw [hx] at hr
         generalize hv : a.eval x = v at hr
         cases hr with
         | hdE => exact same rfl ⟨_, _, hv⟩
         | hd hφ hn hc hC =>
          rename_i b n0 C0 cap
          by_cases hn0 : n = 0
          · subst hn0; exact same rfl ⟨_, _, hv⟩
          · obtain ⟨c, hc1, hR⟩ := hs.sto_blk hi
            unfold SimR arrOf at hR; dsimp only at hR
            rw [hφ] at hc1; cases hc1
            obtain ⟨C, hA, rfl, rfl⟩ : ∃ C, SimA X g w i b p.1 p.2 C ∧ n0 = p.2.length ∧ C0 = C := by
             rcases hR with ⟨e0, _⟩ | ⟨b', C', e0, hA'⟩
             · exact absurd e0 arc_ne
             · obtain ⟨rfl, rfl, rfl⟩ := arc_inj e0; exact ⟨_, hA', rfl, rfl⟩
            have hzs : zv.cells.size = p.1.size := by
             have := (zeroL_spec hzl).1
             have hz2 := hte.zlen
             simp only at hz2
             rw [hz2] at this
             rw [← hsz, ← this]; simp
            generalize hys : (Builtin.zeroCells zv.cells n).toList = ys
            have hyl : ys.length = n * p.1.size := by rw [← hys, zeros_list, hzs]
            have hmul : lo * p.1.size + n * p.1.size = (lo + n) * p.1.size := (Nat.add_mul ..).symm
            have hlen : (lo + n) * p.1.size ≤ p.2.length * p.1.size := Nat.mul_le_mul_right _ hle
            have hC : p.2.length * p.1.size ≤ C0 * p.1.size := Nat.mul_le_mul_right _ hA.le
            obtain ⟨h3, hcell3, hb3, hin, hout, hmono, hext⟩ := hs.layArr hi hA (o := lo * p.1.size) (ys := ys) (by omega)
            have hel := zeros_elems (X := X) (g := g) (w := w) hte (i := inf) hzl h1s n
            have hV : (Array.range (n * sz)).map (zv.cells[· % zv.cells.size]!) = Builtin.zeroCells zv.cells n := by
             unfold Builtin.zeroCells; rw [hzs, hsz]
            simp only at hel
            rw [hV] at hel
            have hl' : (p.2.take lo ++ (List.replicate n x0 ++ p.2.drop (lo + n))).length = p.2.length := by simp; omega
            have hdecz := fun (vs : Nat → Value) => (decP_sound (X := X) (φ := g.φ) (G := g.G) (w := w.setCells b (lo * p.1.size) ys) _ _ _ _ hdec).2.2 vs
            have h4 := h3.setArr (i := i) (b := b) (t := p.1) (l := p.2.take lo ++ (List.replicate n x0 ++ p.2.drop (lo + n))) (C := C0) (by simp [(List.getElem?_eq_some_iff.1 hi).1]) (by rw [hl']; exact hφ) (hs.glob.owned hA.k) (upd_same _ _ _) hb3 hA.g0 (by rw [hl']; exact hA.le) hA.max hcell3
             (fun q y hq j c hj => by
              have hjs : j < p.1.size := by rw [← cells_length p.1 y]; exact (List.getElem?_eq_some_iff.1 hj).1
              have hql : q < p.2.length := by rw [← hl']; exact (List.getElem?_eq_some_iff.1 hq).1
              have old : (q < lo ∨ lo + n ≤ q) → p.2[q]? = some y → ∃ v, (w.setCells b (lo * p.1.size) ys).cell? ⟨b, q * p.1.size + j, none⟩ = some v ∧ RepV X g.φ g.G (w.setCells b (lo * p.1.size) ys) c v := by
               intro hqo hq'
               obtain ⟨u, hu, hr⟩ := hA.con q y hq' j c hj
               refine ⟨u, ?_, hmono _ _ hr⟩
               rw [hout _ ?_, hu]
               rcases hqo with h' | h'
               · have : (q + 1) * p.1.size ≤ lo * p.1.size := Nat.mul_le_mul_right _ h'
                 rw [Nat.succ_mul] at this; omega
               · have : (lo + n) * p.1.size ≤ q * p.1.size := Nat.mul_le_mul_right _ h'
                 omega
              by_cases h1q : q < lo
              · rw [List.getElem?_append_left (by simp; omega)] at hq
                exact old (.inl h1q) (take_get? hq)
              · rw [List.getElem?_append_right (by simp; omega)] at hq
                simp only [List.length_take, Nat.min_eq_left (show lo ≤ p.2.length by omega)] at hq
                by_cases h2q : q < lo + n
                · rw [List.getElem?_append_left (by simp; omega), List.getElem?_replicate, if_pos (by omega)] at hq
                  cases hq
                  have hidx : ∀ j', j' < p.1.size → ∃ u, ys[(q - lo) * p.1.size + j']? = some u ∧ ∀ d, z0[j']? = some d → RepV X g.φ g.G w d u := by
                   intro j' hj'
                   have hz0 := hte.zlen
                   simp only at hz0
                   have hzj : j' < z0.length := by omega
                   obtain ⟨_, hrow⟩ := hel.rep (q - lo) z0 (by rw [List.getElem?_replicate, if_pos (by omega)])
                   obtain ⟨u, hu, hr⟩ := hrow j' _ (List.getElem?_eq_getElem hzj)
                   rw [← hsz, ← hys]
                   refine ⟨u, by simpa using hu, fun d hd => ?_⟩
                   rw [List.getElem?_eq_getElem hzj] at hd; cases hd; exact hr
                  have hval := hdecz (fun j' => (ys[(q - lo) * p.1.size + j']?).getD undef) (fun j' c' hj' hc' => by
                   obtain ⟨u, hu, hr⟩ := hidx j' hj'
                   rw [hu]; exact hmono _ _ (hr c' hc')) j c hj
                  obtain ⟨u, hu, _⟩ := hidx j hjs
                  refine ⟨u, ?_, by rw [hu] at hval; exact hval⟩
                  have := hin _ u hu
                  have e1 : lo * p.1.size + ((q - lo) * p.1.size + j) = q * p.1.size + j := by
                   rw [Nat.sub_mul]
                   have : lo * p.1.size ≤ q * p.1.size := Nat.mul_le_mul_right _ (by omega)
                   omega
                  rw [e1] at this; exact this
                · rw [List.getElem?_append_right (by simp; omega)] at hq
                  simp only [List.length_replicate, List.getElem?_drop] at hq
                  rw [show lo + n + (q - lo - n) = q by omega] at hq
                  exact old (.inr (by omega)) hq)
            rw [List.set_set] at h4
            have h5 := h4.put o.dst (.tup []) (.tuple #[]) (.tup rfl (fun j c hj => by simp at hj)) rfl
            have hcells : (storeCells ⟨b, lo * p.1.size, none⟩ ys).run P w = .ok () (w.setCells b (lo * p.1.size) ys) := by
             have := run_storeCells_cells (P := P) b (lo * p.1.size) ys 0 w (fun j hj => by
              obtain ⟨⟨u, hu⟩, _⟩ := hA.cell (lo * p.1.size + j) (by omega)
              simp [hu]) (fun j hj => by
              obtain ⟨_, hu⟩ := hA.cell (lo * p.1.size + j) (by omega)
              simpa using hu)
              (fun u hu => by
               obtain ⟨j, hj⟩ := List.mem_iff_getElem?.1 hu
               have hjl := (List.getElem?_eq_some_iff.1 hj).1
               rw [hyl] at hjl
               obtain ⟨q1, q2, q3⟩ := idx_split hjl
               have hz0 := hte.zlen
               simp only at hz0
               have hzj : j % p.1.size < z0.length := by omega
               obtain ⟨_, hrow⟩ := hel.rep (j / p.1.size) z0 (by rw [List.getElem?_replicate, if_pos q1])
               obtain ⟨u', hu', hr⟩ := hrow (j % p.1.size) _ (List.getElem?_eq_getElem hzj)
               rw [hsz, q3] at hu'
               have : u = u' := by
                rw [← hys] at hj
                have hj' : (Builtin.zeroCells zv.cells n)[j]? = some u := by simpa using hj
                rw [hj'] at hu'; exact Option.some.inj hu'
               subst this
               obtain ⟨uz, _, hz1⟩ := (zeroL_spec hzl).2 (j % p.1.size) _ (List.getElem?_eq_getElem hzj)
               exact rep_one hr (zero1_spec (X := X) (φ := g.φ) (G := g.G) (w := w) hz1).2)
             simpa using this
            obtain ⟨m, hm⟩ : ∃ m, n = m + 1 := ⟨n - 1, by omega⟩
            refine ⟨_, _, _, _, _, .inl ?_, h, h5, hext _ _ (fun b' _ hn => ?_) (fun _ _ h => h)⟩
            · rw [hty] at hv
              rw [hm] at hv hys
              simp [execOp, ho, resolve, invoke, builtin, Builtin.clear_, run_underlying hu, hv, hzv, hys, hcells]
            · have hne : b' ≠ b := by intro e0; subst e0; rw [hA.k] at hn; cases hn
              show upd (upd g.κ b none) b _ b' = none
              rw [upd_ne _ _ hne, upd_ne _ _ hne]; exact hn
       · cases h
     · cases hF
   · cases hF
 · cases hF
end
end Go.Ev
namespace Go.Ev
section
variable {P : Program} {X : Cfg} {R : Type} {w : World}
variable {g : Gh} {env : List D} {sto : Sto} {o : Oper} {a : Act} {k : St → Option R} {r : R} {cx : Cx}
theorem tailX_sound {vals} (hs : Sim X g w env vals sto) {t : Ty} {y : D} {l : List t.den} (h : tailX sto t y = some l) {vy : Value} (hy : RepV X g.φ g.G w y vy) :
 ∃ news, RowOk X g.φ g.G w t l news ∧ (∀ w', (Builtin.lenOf vy).run P w' = .ok l.length w') ∧ ∀ w', w'.heap = w.heap → (Builtin.firstCells t.size l.length vy).run P w' = .ok news.toArray w' := by
 unfold tailX at h
 split at h
 · split at h
   · rename_i i p ha
     obtain ⟨e, h⟩ := castL_some h
     obtain ⟨t', l'⟩ := p
     simp only at e
     subst e; subst h
     obtain ⟨ao, cap, rfl, _, _, hA⟩ := hs.arr_view (arrAt_some ha) hy
     obtain ⟨news, h1, h2⟩ := hA.row (P := P)
     exact ⟨news, h1, fun _ => rfl, h2⟩
   · cases h
 · exact tail_sound h hy
theorem Sim.freshArr {vals} (h : Sim X g w env vals sto) {t : Ty} {l : List t.den} (V : Array Value) (elem : TypeId) (fr : Nat × Nat) (C : Nat)
 (hr : ∀ (i : Nat) x, l[i]? = some x → ∀ (j : Nat) c, (cells t x)[j]? = some c → ∃ u, V[i * t.size + j]? = some u ∧ RepV X g.φ g.G w c u)
 (hlen : l.length ≤ C) (hmax : C ≤ 9223372036854775807) (hcap : C * t.size ≤ V.size) (hfr : fr.2 ≤ fr.1 ∨ V.size ≤ fr.1) :
 ∃ g', Sim X g' (w.alloc (.cells V elem fr)) env vals (sto ++ [[.arr t l]]) ∧ Ext g w g' (w.alloc (.cells V elem fr)) ∧ g'.φ = g.φ ++ [arc w.heap.size l.length C] := by
 obtain ⟨h1, e1, hκ⟩ := h.newBlock (.cells V elem fr) 0
 have hb : (w.alloc (.cells V elem fr)).heap[w.heap.size]? = some (.cells V elem fr) := by
  show (w.heap.push (.cells V elem fr))[w.heap.size]? = _
  rw [Array.getElem?_push, if_pos rfl]
 have hcell : ∀ j, (w.alloc (.cells V elem fr)).cell? ⟨w.heap.size, j, none⟩ = V[j]? := fun j => by unfold World.cell?; rw [hb]; rfl
 have hfz : ∀ j, j < V.size → (w.alloc (.cells V elem fr)).frozen? ⟨w.heap.size, j, none⟩ = false := fun j hj => by
  simp only [World.frozen?, hb]
  rcases hfr with h | h
  · by_cases h1 : fr.1 ≤ j
    · have : ¬ j < fr.2 := by omega
      simp [this]
    · simp [h1]
  · have : ¬ fr.1 ≤ j := by omega
    simp [this]
 have h2 := h1.addRow (arc w.heap.size l.length C)
 have hφ : ∀ (i b' : Nat), g.φ[i]? = some b' → (g.φ ++ [arc w.heap.size l.length C])[i]? = some b' := fun i b' hb => by
  rw [List.getElem?_append_left (List.getElem?_eq_some_iff.1 hb).1]; exact hb
 have h3 := h2.setArr (i := sto.length) (b := w.heap.size) (t := t) (l := l) (C := C) (by simp) (by show (g.φ ++ _)[sto.length]? = _; rw [← h.slen]; simp) h.glob.fresh hκ (by simp) (upd_same _ _ _) hlen hmax
  (fun j hj => by
   have hj' : j < V.size := by omega
   exact ⟨⟨V[j], by rw [hcell]; simp [hj']⟩, hfz j hj'⟩)
  (fun q x hq j c hj => by
   obtain ⟨u, hu, hru⟩ := hr q x hq j c hj
   exact ⟨u, by rw [hcell]; exact hu, hru.mono hφ e1.gmono e1.cell⟩)
 rw [set_snoc _ _ _ rfl] at h3
 refine ⟨_, h3, ⟨e1.size, e1.os, e1.tape, e1.output, e1.blk, e1.cell, e1.gmono, e1.gsame, fun b hb' hn => ?_, hφ⟩, rfl⟩
 show upd g.κ w.heap.size _ b = none
 rw [upd_ne _ _ (Nat.ne_of_lt hb')]; exact hn
theorem isStrSl_spec (hcx : CxOk P X cx) {t2 : TypeId} (h : isStrSl cx t2 = true) : ∃ d2, P.underlying t2 = some d2 ∧ ((∃ e2, d2 = .slice e2) ∨ d2 = .string) := by
 unfold isStrSl at h
 split at h
 · rename_i h1; exact ⟨_, desc_slice hcx h1 rfl, .inl ⟨_, rfl⟩⟩
 · rename_i h1; exact ⟨_, desc_str hcx h1 rfl, .inr rfl⟩
 · cases h
theorem op_xappend (hcx : CxOk P X cx) {x y : Operand} {t t2 : TypeId} (ho : o.op = .call { callee := .builtin .append, args := #[x, y], argTypes := #[t, t2] }) (hs : Sim X g w env a.tmps.toList sto) {i : Nat} (hx : rd env x = .hw i)
 (h2 : isStrSl cx t2 = true) {F : (D → Sto → Option R) → Option R} (hF : xAppend cx t sto i (rd env y) = some F) (h : F (fun d s => k ⟨put env o.dst d, s⟩) = some r) : OpOk P X o a w g k r := by
 obtain ⟨d2, hd2, hd2'⟩ := isStrSl_spec hcx h2
 unfold xAppend at hF
 split at hF
 · rename_i p ha
   split at hF
   · rename_i e _ _ _ _ _ ht
     have hst := desc_slice hcx ht rfl
     split at hF
     · rename_i d0 sz by_ ag et z he
       have hte := hcx.tab _ _ he
       split at hF
       · rename_i l l' hcast htail
         cases hF
         obtain ⟨t', l0⟩ := p
         obtain ⟨e0, hcast⟩ := castL_some hcast
         simp only at e0
         subst e0; subst hcast
         simp only at h
         split at h
         · rename_i hroom
           obtain ⟨ao, cap, hv, hlc, hmax, hA⟩ := hs.arr_view (arrAt_some ha) (hx ▸ hs.read x)
           obtain ⟨news, hn, hlen, hf⟩ := tailX_sound (P := P) hs htail (hs.read y)
           generalize hvy : a.eval y = vy at hlen hf
           obtain ⟨inf, z0, hinf, hisz, hiby, hiz, hzl⟩ := hte.info
           obtain ⟨hts, hta, h1s, h1b⟩ := hte.ty _ rfl
           simp only at hisz hiby hts h1s h1b hzl
           have hise : inf.size = t'.size := hisz.trans hts.symm
           have hrl := room_le hroom
           dsimp only at hv hlc hA ha
           have dead := hs.deadRow (arrAt_some ha)
           have fin : ∀ v w' g' , (Builtin.append_ #[t, t2] o.type #[.slice ao l0.length cap, vy]).run P w = .ok v w' → Sim X g' w' env a.tmps.toList (sto.set i [] ++ [[.arr t' (l0 ++ l')]]) → Ext g w g' w' → RepV X g'.φ g'.G w' (.hw sto.length) v → OpOk P X o a w g k r := by
            intro v w' g' hrun hs' he' hr'
            have h5 := hs'.put o.dst (.hw sto.length) v hr' rfl
            refine ⟨v, w', g', _, _, .inl ?_, h, h5, he'⟩
            simp [execOp, ho, resolve, invoke, builtin, hv, hvy, hrun]
           by_cases hg : cap < l0.length + l'.length
           · -- it grows
             obtain ⟨olds, hol, hfo⟩ := hA.row (P := P)
             have hle : l0.length + l'.length ≤ 140737488355328 := Nat.le_trans (Nat.le_mul_of_pos_right _ h1b) hrl
             have hfit := growslice_fits hg hrl
             rw [← hiby] at hfit
             have hrun := run_append_more (P := P) (w := w) (ty := o.type) (base := ao) (sCap := cap) (sLen := l0.length) (m := l'.length) (x := vy) (olds := olds) (news := news) hst hd2 hd2' hinf hiz (hlen w)
              (by rw [hise]; exact hf w.drew rfl) (by rw [hise]; exact hfo w.drew rfl) hg (by omega) hfit
             have hrow := hol.append hn
             have hzs : z0.cells.size = t'.size := by
              have := (zeroL_spec hzl).1
              have hz2 := hte.zlen
              simp only at hz2
              rw [hz2] at this; rw [← Array.length_toList, this, hts]
             have hge := grownCap_ge w (l0.length + l'.length) cap e
             have hcm : grownCap w (l0.length + l'.length) cap e ≤ maxLen := grownCap_le_maxLen w _ cap e (by unfold maxLen; omega)
             have hlo := hol.len
             have hln := hn.len
             obtain ⟨g', h6, e6, hφ'⟩ := ((hs.alike (Alike.drew w)).deadRow (arrAt_some ha)).freshArr (t := t') (l := l0 ++ l') (olds.toArray ++ news.toArray ++ Builtin.zeroCells z0.cells (grownCap w (l0.length + l'.length) cap e - (l0.length + l'.length))) e (0, 0)
              (grownCap w (l0.length + l'.length) cap e)
              (fun ii x hx j c hc => by
               obtain ⟨u, hu, hr⟩ := hrow.rep ii x hx j c hc
               refine ⟨u, ?_, RepV.mono (w := w) (w' := w.drew) (fun _ _ h => h) (fun _ => Nat.le_refl _) (fun _ _ _ => rfl) hr⟩
               have hj2 := (List.getElem?_eq_some_iff.1 hu).1
               have hj3 : ii * t'.size + j < (olds.toArray ++ news.toArray).size := by simpa using hj2
               rw [Array.getElem?_append_left hj3]
               simp only [List.append_toArray, List.getElem?_toArray]
               exact hu)
              (by rw [List.length_append]; exact hge) (by unfold maxLen at hcm; exact hcm)
              (by
               simp only [Array.size_append, List.size_toArray, size_zeroCells, hzs, hlo, hln, ← Nat.add_mul]
               exact Nat.mul_le_mul_right _ (by omega))
              (.inl (Nat.le_refl _))
             refine fin _ _ g' hrun h6 ((Ext.alike g (Alike.drew w)).trans e6) ?_
             refine .hw (C := grownCap w (l0.length + l'.length) cap e) ?_ hge (Nat.le_refl _)
             rw [hφ', ← hs.slen, List.length_append]; simp
           · rcases hA with ⟨rfl, rfl, rfl⟩ | ⟨b, C, rfl, hφ, hcC, hA⟩
             · have hl' : l' = [] := List.length_eq_zero_iff.1 (by simp at hg; exact List.length_eq_zero_iff.2 hg)
               subst hl'
               have h6 := dead.nilRow t'
               refine fin (.slice none 0 0) w _ ?_ h6 (.phi g w 0) (.hwN (by show (g.φ ++ [0])[sto.length]? = _; rw [← hs.slen]; simp))
               have hf0 := hf w rfl
               have hl0 := hlen w
               simp only [List.length_nil] at hf0 hl0
               rw [← hise] at hf0
               rcases hd2' with ⟨e2, rfl⟩ | rfl <;> simp [Builtin.append_, run_underlying hst, run_underlying hd2, sizeOf, typeInfo, hinf, hl0, hf0]
             · have hcapm : (l0.length + l'.length) * t'.size ≤ C * t'.size := Nat.mul_le_mul_right _ (by omega)
               have hmul : (l0.length + l'.length) * t'.size = l0.length * t'.size + l'.length * t'.size := Nat.add_mul ..
               have hnl := hn.len
               obtain ⟨h3, hcell3, hb3, hin, hout, hmono, hext⟩ := hs.layArr (t := t') (l := l0) (arrAt_some ha) hA (o := l0.length * t'.size) (ys := news) (by omega)
               have hrr := run_append_room (P := P) (w := w) (ty := o.type) (b := b) (off := 0) (sLen := l0.length) (sCap := cap) (m := l'.length) (x := vy) (news := news) hst hd2 hd2' hinf (hlen w)
                (by rw [hise]; exact hf w rfl) (by rw [hise]; exact hnl) hn.one (by omega)
                (fun j hj => by
                 rw [hise, Nat.zero_add]
                 obtain ⟨⟨u, hu⟩, _⟩ := hA.cell (l0.length * t'.size + j) (by omega)
                 simp [hu])
                (fun j hj => by
                 rw [hise, Nat.zero_add]
                 exact (hA.cell (l0.length * t'.size + j) (by omega)).2)
               rw [hise, Nat.zero_add] at hrr
               have h4 := h3.addRow (arc b (l0 ++ l').length C)
               have hφ' : ∀ (i b' : Nat), g.φ[i]? = some b' → (g.φ ++ [arc b (l0 ++ l').length C])[i]? = some b' := fun i b' hb => by
                rw [List.getElem?_append_left (List.getElem?_eq_some_iff.1 hb).1]; exact hb
               have hmono' : ∀ d v, RepV X g.φ g.G w d v → RepV X (g.φ ++ [arc b (l0 ++ l').length C]) g.G (w.setCells b (l0.length * t'.size) news) d v := fun d v hr => (hmono d v hr).mono hφ' (fun _ => Nat.le_refl _) (fun _ _ _ => rfl)
               have h5 := h4.setArr (i := sto.length) (b := b) (t := t') (l := l0 ++ l') (C := C) (by simp) (by show (g.φ ++ _)[sto.length]? = _; rw [← hs.slen]; simp) (hs.glob.owned hA.k) (upd_same _ _ _) hb3 hA.g0 (by rw [List.length_append]; omega) hA.max hcell3
                (fun q x hq j c hj => by
                 have hjs : j < t'.size := by rw [← cells_length t' x]; exact (List.getElem?_eq_some_iff.1 hj).1
                 by_cases hql : q < l0.length
                 · rw [List.getElem?_append_left hql] at hq
                   obtain ⟨u, hu, hr⟩ := hA.con q x hq j c hj
                   refine ⟨u, ?_, hmono' _ _ hr⟩
                   rw [hout _ (.inl (cell_idx hql hjs)), hu]
                 · rw [List.getElem?_append_right (by omega)] at hq
                   obtain ⟨u, hu, hr⟩ := hn.rep _ x hq j c hj
                   refine ⟨u, ?_, hmono' _ _ hr⟩
                   have := hin _ u hu
                   rw [Nat.sub_mul] at this
                   have hm2 : l0.length * t'.size ≤ q * t'.size := Nat.mul_le_mul_right _ (by omega)
                   rw [show l0.length * t'.size + (q * t'.size - l0.length * t'.size + j) = q * t'.size + j by omega] at this
                   exact this)
               rw [set_snoc _ _ _ (by simp)] at h5
               refine fin _ _ _ hrr h5 (hext _ _ (fun b' _ hn' => ?_) hφ') ?_
               · have hne : b' ≠ b := by intro e0; subst e0; rw [hA.k] at hn'; cases hn'
                 show upd (upd g.κ b none) b _ b' = none
                 rw [upd_ne _ _ hne, upd_ne _ _ hne]; exact hn'
               · refine .hw (n := l0.length + l'.length) (C := C) ?_ (by omega) hcC
                 show (g.φ ++ _)[sto.length]? = _
                 rw [← hs.slen, List.length_append]; simp
         · cases h
       · cases hF
     · cases hF
   · cases hF
 · cases hF
end
end Go.Ev
namespace Go.Ev
section
variable {P : Program} {X : Cfg} {R : Type} {w : World}
variable {g : Gh} {env : List D} {sto : Sto} {o : Oper} {a : Act} {k : St → Option R} {r : R} {cx : Cx}
theorem op_assert (hcx : CxOk P X cx) {x : Operand} {xT t : TypeId} (ho : o.op = .typeAssert x xT t true) (hs : Sim X g w env a.tmps.toList sto) (ht : isTf cx t = true) {e : Err} (hx : rd env x = .err e)
 (h : errFst e (k ⟨put env o.dst (.tup [.nilp, .bool false]), sto⟩) (fun c p u => k ⟨put env o.dst (.tup [.box [.int .i64 c, .int .i64 p, .err u], .bool true]), sto⟩) = some r) : OpOk P X o a w g k r := by
 obtain ⟨htf, hB⟩ := hcx.tf t ht
 obtain ⟨el, i, hu, hi, hz⟩ := tfB_spec hB
 have hr := hs.read x
 rw [hx] at hr
 generalize hv : a.eval x = v at hr
 unfold errFst at h
 split at h
 · cases hr
   refine opOk_pure hs (.tuple #[.pointer none, .bool false]) _ ?_ (.tup rfl fun j c hj => ?_) rfl h
   · simp [execOp, ho, hv, Instr.typeAssert, run_underlying hu, zeroValue, typeInfo, hi, hz]
   · match j, hj with
     | 0, hj => cases hj; exact .nilp
     | 1, hj => cases hj; exact .bool _
     | j + 2, hj => simp at hj
 · rename_i c p u
   cases hr with
   | errFault hp h0 h1 h2 hc ha hu' =>
    rename_i b off uv
    refine opOk_pure hs (.tuple #[.pointer (some ⟨b, off, none⟩), .bool true]) _ ?_ (.tup rfl fun j c' hj => ?_) rfl h
    · simp [execOp, ho, hv, Instr.typeAssert, run_underlying hu, htf]
    · match j, hj with
      | 0, hj =>
       cases hj
       refine .box (fun j => match j with | 0 => .int .i64 c | 1 => .int .i64 p | _ => uv) hp (fun j hj => ?_) (fun j d hd => ?_) (fun j d hd => ?_)
       · match j, hj with
         | 0, _ => exact h0
         | 1, _ => exact h1
         | 2, _ => exact h2
         | j + 3, hj => exact absurd hj (by simp)
       · match j, hd with
         | 0, hd => cases hd; rfl
         | 1, hd => cases hd; rfl
         | 2, hd => cases hd; rfl
         | j + 3, hd => simp at hd
       · match j, hd with
         | 0, hd => cases hd; exact .int hc
         | 1, hd => cases hd; exact .int ha
         | 2, hd => cases hd; exact hu'
         | j + 3, hd => simp at hd
      | 1, hj => cases hj; exact .bool _
      | j + 2, hj => simp at hj
 · cases h
theorem op_max {x y : Operand} {ats : Array TypeId} (ho : o.op = .call { callee := .builtin .max, args := #[x, y], argTypes := ats }) (hs : Sim X g w env a.tmps.toList sto) {kx : IntKind} {m n : Int} (hx : rd env x = .int kx m) (hy : rd env y = .int kx n)
 (h : k ⟨put env o.dst (.int kx (maxI m n)), sto⟩ = some r) : OpOk P X o a w g k r := by
 obtain ⟨h1, g1⟩ := rep_int (hx ▸ hs.read x)
 obtain ⟨h2, g2⟩ := rep_int (hy ▸ hs.read y)
 have e : (if n > m then n else m) = maxI m n := by
  unfold maxI
  by_cases hlt : m < n
  · rw [if_pos hlt, decide_eq_true hlt]; rfl
  · rw [if_neg hlt, decide_eq_false hlt]; rfl
 refine opOk_pure hs (.int kx (maxI m n)) _ ?_ (.int ?_) rfl h
 · simp [execOp, ho, resolve, invoke, builtin, h1, h2, run_max_int2, e]
 · rw [← e]; split <;> assumption
theorem op_min {x y : Operand} {ats : Array TypeId} (ho : o.op = .call { callee := .builtin .min, args := #[x, y], argTypes := ats }) (hs : Sim X g w env a.tmps.toList sto) {kx : IntKind} {m n : Int} (hx : rd env x = .int kx m) (hy : rd env y = .int kx n)
 (h : k ⟨put env o.dst (.int kx (minI m n)), sto⟩ = some r) : OpOk P X o a w g k r := by
 obtain ⟨h1, g1⟩ := rep_int (hx ▸ hs.read x)
 obtain ⟨h2, g2⟩ := rep_int (hy ▸ hs.read y)
 have e : (if n < m then n else m) = minI m n := by
  unfold minI
  by_cases hlt : n < m
  · rw [if_pos hlt, decide_eq_true hlt]; rfl
  · rw [if_neg hlt, decide_eq_false hlt]; rfl
 refine opOk_pure hs (.int kx (minI m n)) _ ?_ (.int ?_) rfl h
 · simp [execOp, ho, resolve, invoke, builtin, h1, h2, run_min_int2, e]
 · rw [← e]; split <;> assumption
end
section
variable {P : Program} {X : Cfg} {R : Type} {w : World}
variable {g : Gh} {env : List D} {sto : Sto} {o : Oper} {a : Act} {k : St → Option R} {r : R} {cx : Cx}
def OpTo (P : Program) (X : Cfg) (o : Oper) (a : Act) (w : World) (g : Gh) (k : St → Option R) (r : R) : Prop :=
 ∀ (next : Act → World → Prop) (Q : Exit → Act → World → Prop),
  (∀ v w' g' env' sto', k ⟨env', sto'⟩ = some r → Sim X g' w' env' (putV a.tmps.toList o.dst v) sto' → Ext g w g' w' → next (a.put o.dst v) w') → o.wp P a w next Q
theorem OpOk.to (h : OpOk P X o a w g k r) : OpTo P X o a w g k r := fun _ _ hn => h.wp hn
theorem evOp2_sound (hcx : CxOk P X cx) (hs : Sim X g w env a.tmps.toList sto) (h : evOp2 cx o ⟨env, sto⟩ k = some r) : OpTo P X o a w g k r := by
 unfold evOp2 at h
 split at h
 · rename_i x xT t ho
   split at h
   · rename_i ht hx
     exact (op_assert hcx ho hs ht hx h).to
   · cases h
 · rename_i args ats ho
   split at h
   · rename_i x y hargs
     have e1 : args = #[x, y] := by apply Array.ext'; exact hargs
     subst e1
     split at h
     · rename_i hx hy
       split at h
       · rename_i hkk
         subst hkk
         exact (op_max ho hs hx hy h).to
       · cases h
     · cases h
   · cases h
 · rename_i args ats ho
   split at h
   · rename_i x y hargs
     have e1 : args = #[x, y] := by apply Array.ext'; exact hargs
     subst e1
     split at h
     · rename_i hx hy
       split at h
       · rename_i hkk
         subst hkk
         exact (op_min ho hs hx hy h).to
       · cases h
     · cases h
   · cases h
 · cases h
theorem evOp_sound (hcx : CxOk P X cx) {hc : FuncId → List D → Sto → (D → Sto → Option R) → Option R} (hok : HcOk P X hc) {rest : List Oper}
 (hs : Sim X g w env a.tmps.toList sto) (h : evOp cx hc rest o ⟨env, sto⟩ k = some r) : OpTo P X o a w g k r := by
 unfold evOp at h
 split at h
 · rename_i x ho
   split at h
   · exact (op_move x (.inl ho) hs h).to
   · exact (op_copy x ho hs h).to
 · rename_i x ho
   exact (op_move x (.inr ho) hs h).to
 · rename_i c x y ho
   split at h
   · rename_i t hc0
     split at h
     · exact (op_pick c x y ho hs true hc0 h).to
     · exact (op_pick c x y ho hs false hc0 h).to
   · cases h
 · rename_i t ho
   split at h
   · cases h
   · rename_i e hne ht
     have hte := hcx.tab _ _ ht
     refine (op_alloc t ho hs hte ?_ h).to
     intro e0
     obtain ⟨d, sz, by_, ag, ty, z⟩ := e
     simp only at e0
     subst e0
     exact hne _ _ _ _ _ rfl
   · cases h
 · rename_i t x ho
   split at h
   · split at h
     · rename_i hf
       obtain ⟨hl, _, h1⟩ := fits_spec hf
       exact (op_box t x ho hs (by intro e; rw [e] at hl; simp at hl; omega) h).to
     · cases h
   · cases h
 · rename_i t parts ho
   split at h
   · rename_i ht
     split at h
     · rename_i hf
       exact (op_build hcx ho hs ht rfl hf h).to
     · cases h
   · cases h
 · rename_i t len parts ho
   split at h
   · rename_i ht
     split at h
     · rename_i he
       split at h
       · rename_i hf
         split at h
         · rename_i hd
           split at h
           · rename_i hle
             exact (op_buildSlice hcx ho hs ht rfl he rfl hf hd (Nat.le_of_ble_eq_true hle) h).to
           · cases h
         · cases h
       · cases h
     · cases h
   · cases h
 · rename_i t x ho
   split at h
   · rename_i e ht
     have hte := hcx.tab _ _ ht
     split at h
     · rename_i i off hx
       split at h
       · rename_i cs hi
         split at h
         · rename_i hle
           have hle := Nat.le_of_ble_eq_true hle
           split at h
           · rename_i hag hst hlf
             have h1 := hte.one hag
             have hget : cs[off]? = some (cs.getD off .any) := by simp [List.getD, show off < cs.length by omega]
             exact (op_loadTake t x ho hs hte hag hx hi hget hlf h).to
           · exact (op_load t x ho hs hte hx hi hle h).to
         · cases h
       · cases h
     · rename_i cs hx
       split at h
       · rename_i hle
         exact (op_loadBox t x ho hs hte hx (Nat.le_of_ble_eq_true hle) h).to
       · cases h
     · cases h
   · cases h
 · rename_i t x y ho
   split at h
   · rename_i e ht
     have hte := hcx.tab _ _ ht
     split at h
     · rename_i i off hx
       split at h
       · rename_i cs hi
         split at h
         · rename_i hle hf
           exact (op_store t x y ho hs hte hx hi (Nat.le_of_ble_eq_true hle) hf h).to
         · cases h
       · cases h
     · cases h
   · cases h
 · rename_i x ho
   split at h
   · rename_i i off hx
     exact (op_nilCheck x ho hs (.inl ⟨_, _, hx⟩) (by rw [hx]; exact h)).to
   · rename_i cs hx
     exact (op_nilCheck x ho hs (.inr (.inl ⟨_, hx⟩)) (by rw [hx]; exact h)).to
   · rename_i f cs hx
     exact (op_nilCheck x ho hs (.inr (.inr ⟨_, _, hx⟩)) (by rw [hx]; exact h)).to
   · cases h
 · rename_i op t x y yt ho
   obtain ⟨d, v, hk, hf, hr, hrun⟩ := binK_sound (P := P) hcx h (hs.read x) (hs.read y) x y rfl
   refine (opOk_pure hs v d ?_ hr hf hk).to
   simp only [execOp, ho]
   rw [Sem.run_bind, hrun]; rfl
 · rename_i op t x ho
   obtain ⟨d, v, hk, hf, hr, hrun⟩ := unK_sound (P := P) (w := w) h (hs.read x)
   exact (opOk_pure hs v d (by simp [execOp, ho, hrun]) hr hf hk).to
 · rename_i src dst x ho
   split at h
   · rename_i m l hsrc heq hx
     have heq' := Nat.eq_of_beq_eq_true heq
     subst heq'
     split at h
     · rename_i he
       split at h
       · exact (op_convMark hcx ho hs (by simp) hsrc rfl he rfl hx h).to
       · cases h
     · cases h
   · unfold convK at h
     split at h
     · rename_i hsrc hdst hx
       exact (op_convInt hcx ho hs hsrc hdst rfl hx h).to
     · rename_i hsrc hdst hx
       exact (op_convStr hcx ho hs hsrc hdst rfl hx h).to
     · rename_i hsrc hdst hx
       split at h
       · rename_i he
         exact (op_convToBytes hcx ho hs hsrc hdst rfl he rfl hx h).to
       · cases h
     · rename_i hsrc hdst hx
       split at h
       · rename_i he
         exact (op_convBytes hcx ho hs hsrc rfl hdst rfl he rfl (.inl ⟨_, hx⟩) h).to
       · cases h
     · rename_i hsrc hdst hx
       split at h
       · rename_i he
         exact (op_convBytes hcx ho hs hsrc rfl hdst rfl he rfl (.inr ⟨hx, rfl⟩) h).to
       · cases h
     · cases h
 · rename_i t x lo hi mx ho
   split at h
   · rename_i hty
     exact (op_slice hcx t x lo hi mx ho hs hty h).to
   · cases h
 · rename_i t x f ho
   split at h
   · rename_i ht
     split at h
     · rename_i fi hfi
       split at h
       · rename_i i off hz hx
         exact (op_fieldAddr hcx t x f ho hs ht rfl hfi (by intro e; rw [e] at hz; cases hz) (.inl ⟨_, _, hx, h⟩)).to
       · rename_i cs hz hx
         split at h
         · rename_i hle
           exact (op_fieldAddr hcx t x f ho hs ht rfl hfi (by intro e; rw [e] at hz; cases hz) (.inr ⟨_, hx, Nat.le_of_ble_eq_true hle, h⟩)).to
         · cases h
       · cases h
     · cases h
   · cases h
 · rename_i t x f ho
   split at h
   · rename_i ht
     split at h
     · rename_i hfi hx
       split at h
       · rename_i hle
         exact (op_field hcx t x f ho hs ht rfl hfi hx (Nat.le_of_ble_eq_true hle) h).to
       · cases h
     · cases h
   · cases h
 · rename_i t x ix ho
   split at h
   · rename_i ht hx hi
     split at h
     · rename_i hty
       obtain ⟨e, he, hk⟩ := Option.bind_eq_some_iff.1 h
       exact (op_indexSl hcx t x ix ho hs hx hty hi he hk).to
     · cases h
   · rename_i ht hx hi
     split at h
     · rename_i hte
       obtain ⟨j, _, hj, hn, h'⟩ := idxK_spec h
       subst hn
       exact (op_indexArr hcx t x ix ho hs ht rfl hte hx hi ⟨by omega, by omega⟩ (by simpa using h')).to
     · cases h
   · cases h
 · rename_i t x ix ho
   split at h
   · rename_i ht hx hi
     obtain ⟨b, hb, hk⟩ := Option.bind_eq_some_iff.1 h
     exact (op_indexStr hcx t x ix ho hs ht rfl hx hi hb hk).to
   · rename_i ht hx hi
     split at h
     · rename_i hte
       obtain ⟨j, _, hj, hn, h'⟩ := idxK_spec h
       subst hn
       split at h'
       · rename_i hle
         exact (op_indexAgg hcx t x ix ho hs ht rfl hte hx hi ⟨by omega, by omega⟩ (by simpa using Nat.le_of_ble_eq_true hle) (by simpa using h')).to
       · cases h'
     · cases h
   · cases h
 · rename_i x i ho
   split at h
   · rename_i cs hx
     split at h
     · rename_i c hc0
       split at h
       · rename_i hlf
         exact (op_extract ho hs hx hc0 (.inr hlf) h).to
       · have hr := hs.read x
         rw [hx] at hr
         generalize hv : a.eval x = v at hr
         cases hr with
         | tup hl hcr =>
          rename_i vs
          have hci := hcr i c hc0
          have hilt : i < vs.size := by rw [hl]; exact (List.getElem?_eq_some_iff.1 hc0).1
          exact (opOk_pure hs (vs.getD i undef) _ (by simp [execOp, ho, hv, Instr.extract, hilt]) hci.dup (dup_free _) h).to
     · cases h
   · cases h
 · rename_i f first caps ho
   split at h
   · rename_i hfirst
     have e : first = #[] := by apply Array.ext'; exact hfirst
     subst e
     exact (op_makeFunc ho hs h).to
   · split at h
     · rename_i hcaps hb
       have e : caps = #[] := by apply Array.ext'; exact hcaps
       subst e
       exact (op_makeFuncB ho hs (by rw [← hcx.b0]; exact hb) h).to
     · cases h
 · rename_i args ats ho
   split at h
   · rename_i x t hargs hats
     have ho' : o.op = .call { callee := .builtin .len, args := #[x], argTypes := #[t] } := by
      rw [ho]
      have e1 : args = #[x] := by apply Array.ext'; exact hargs
      have e2 : ats = #[t] := by apply Array.ext'; exact hats
      rw [e1, e2]
     split at h
     · rename_i ht hx
       exact (op_len hcx ho' hs ht (.inl ⟨rfl, _, hx, rfl⟩) h).to
     · rename_i ht hx
       exact (op_len hcx ho' hs ht (.inr (.inl ⟨_, rfl, by rw [hx]; rfl, by rw [hx]; intro s h; cases h⟩)) h).to
     · rename_i ht hx
       exact (op_len hcx ho' hs ht (.inr (.inl ⟨_, rfl, by rw [hx]; rfl, by rw [hx]; intro s h; cases h⟩)) h).to
     · rename_i ht
       split at h
       · rename_i hle
         exact (op_len hcx ho' hs ht (.inr (.inr ⟨_, _, rfl, rfl, Nat.le_of_ble_eq_true hle⟩)) h).to
       · cases h
     · cases h
   · cases h
 · rename_i args ats ho
   split at h
   · rename_i x y t t2 hargs hats
     have ho' : o.op = .call { callee := .builtin .append, args := #[x, y], argTypes := #[t, t2] } := by
      rw [ho]
      have e1 : args = #[x, y] := by apply Array.ext'; exact hargs
      have e2 : ats = #[t, t2] := by apply Array.ext'; exact hats
      rw [e1, e2]
     have fin : ∀ d2, P.underlying t2 = some d2 → ((∃ e2, d2 = .slice e2) ∨ d2 = .string) → appendK cx t (rd env x) (rd env y) (fun d => k ⟨put (left env x) o.dst d, sto⟩) = some r → OpTo P X o a w g k r := by
      intro d2 ht2 hd2 h
      obtain ⟨g1, h1, e1, eφ, eG⟩ := hs.take x
      have hy : RepV X g1.φ g1.G w (rd env y) (a.eval y) := (hs.read y).mono e1.φ e1.gmono e1.cell
      obtain ⟨d, hk, v, w', g2, hrun, h2, e2⟩ := appendK_sound (P := P) (ty := o.type) hcx h h1 hy ht2 hd2
      obtain ⟨g3, h3, e3, _⟩ := h2.lay o.dst
      refine OpOk.to ⟨v, w', g3, _, _, .inl ?_, hk, h3, e1.trans (e2.trans e3)⟩
      simp [execOp, ho', resolve, invoke, builtin, hrun]
     split at h
     · rename_i ht2
       exact fin _ (desc_slice hcx ht2 rfl) (.inl ⟨_, rfl⟩) h
     · rename_i ht2
       exact fin _ (desc_str hcx ht2 rfl) (.inr rfl) h
     · cases h
   · cases h
 · rename_i fo args ats ho
   split at h
   · rename_i f caps hf
     split at h
     · rename_i hco
       generalize hargs : argsOf env ((look cx.want f).getD []) 0 args.toList = p at h
       obtain ⟨ds, env'⟩ := p
       intro next Q hn
       exact op_call hcx.b0 hco hok ho hs hf hargs h hn
     · cases h
   · cases h
 · exact evOp2_sound hcx hs h
end
end Go.Ev
namespace Go.Ev
section
variable {P : Program} {X : Cfg} {R : Type} {w : World}
variable {g : Gh} {env : List D} {sto : Sto} {o : Oper} {a : Act} {k : St → Option R} {r : R} {cx : Cx}
theorem left_hw {x : Operand} {i : Nat} (hx : rd env x = .hw i) : left env x = env := by
 cases x <;> try rfl
 rename_i t
 have hx : env.getD t .any = .hw i := hx
 show env.set t (env.getD t .any).dup = env
 rw [hx]
 show env.set t (.hw i) = env
 have hlt : t < env.length := by
  rcases Nat.lt_or_ge t env.length with h | h
  · exact h
  · simp [List.getD, List.getElem?_eq_none h] at hx
 have : env[t] = .hw i := by simpa [List.getD, List.getElem?_eq_getElem hlt] using hx
 rw [← this, List.set_getElem_self]
theorem op_xtail (hcx : CxOk P X cx) {x y : Operand} {t t2 : TypeId} (ho : o.op = .call { callee := .builtin .append, args := #[x, y], argTypes := #[t, t2] }) (hs : Sim X g w env a.tmps.toList sto) {j : Nat} (hy : rd env y = .hw j)
 (h2 : isStrSl cx t2 = true) {p} (ha : arrAt sto j = some p) (h : appendK cx t (rd env x) (.sl .ro p.1 p.2) (fun d => k ⟨put (left env x) o.dst d, sto⟩) = some r) : OpOk P X o a w g k r := by
 obtain ⟨d2, hd2, hd2'⟩ := isStrSl_spec hcx h2
 obtain ⟨g1, h1, e1, eφ, eG⟩ := hs.take x
 have hry : RepV X g1.φ g1.G w (.hw j) (a.eval y) := (hy ▸ hs.read y).mono e1.φ e1.gmono e1.cell
 obtain ⟨d, hk, v, w', g2, hrun, h3, e2⟩ := appendK_soundT (P := P) (ty := o.type) (vy := a.eval y) hcx h h1 (fun {t l} ht => by
  refine tailX_sound (P := P) h1 (t := t) (y := .hw j) ?_ hry
  show (match arrAt sto j with | some p => castL p.1 t p.2 | none => none) = some l
  rw [ha]
  exact ht) hd2 hd2'
 obtain ⟨g3, h4, e3, _⟩ := h3.lay o.dst
 refine ⟨v, w', g3, _, _, .inl ?_, hk, h4, e1.trans (e2.trans e3)⟩
 simp [execOp, ho, resolve, invoke, builtin, hrun]
theorem op_xbuild (hcx : CxOk P X cx) {t e : TypeId} {parts : Array (Nat × Operand)} (ho : o.op = .buildSlice t 0 parts) (hp : parts.toList = []) (hs : Sim X g w env a.tmps.toList sto) {ts te : TE} (ty : Ty)
 (h1 : look cx.tab t = some ts) (hd : ts.d = .slice e) (h2 : look cx.tab e = some te) (hk : k ⟨put env o.dst (.hw sto.length), sto ++ [[.arr ty []]]⟩ = some r) : OpOk P X o a w g k r := by
 have hu := desc_slice hcx h1 hd
 have hte := hcx.tab _ _ h2
 obtain ⟨i, z, hi, hisz, hiby, hz, hzl⟩ := hte.info
 have hps : parts = #[] := by apply Array.ext'; exact hp
 subst hps
 obtain ⟨g1, h3, e1, hφ⟩ := hs.freshArr (t := ty) (l := []) #[] e (0, 0) 0 (fun _ _ h => by cases h) (Nat.le_refl _) (by omega) (by simp) (.inl (Nat.le_refl _))
 have hr : RepV X g1.φ g1.G (w.alloc (.cells #[] e)) (.hw sto.length) (.slice (some ⟨w.heap.size, 0, none⟩) 0 0) := by
  refine .hw (C := 0) ?_ (Nat.le_refl _) (Nat.le_refl _)
  rw [hφ, ← hs.slen]; simp
 have h5 := h3.put o.dst (.hw sto.length) _ hr rfl
 refine ⟨_, _, g1, _, _, .inl ?_, hk, h5, e1⟩
 have hrun := run_buildSlice (P := P) (w := w) (len := 0) hu hi hz (ps := #[]) (V := #[]) (by omega) (by simp [Instr.fill])
 simp only [execOp, ho, Sem.run_bind]
 rw [Array.map_empty, hrun]
 rfl
theorem op_freeze (hcx : CxOk P X cx) {t : TypeId} {x : Operand} (ho : o.op = .makeInterface t x) (hs : Sim X g w env a.tmps.toList sto) (htf : isTf cx t = true) (hc : P.concrete t = true) {i : Nat} {c p : Int} {u : Err}
 (hx : rd env x = .ptr i 0) (hro : rowOf sto i = some [.int .i64 c, .int .i64 p, .err u]) (h : k ⟨put env o.dst (.err (.fault c p u)), sto.set i []⟩ = some r) : OpOk P X o a w g k r := by
 obtain ⟨hX, _⟩ := hcx.tf t htf
 have hread := hs.read x
 rw [hx] at hread
 obtain ⟨b, hb, hv⟩ := rep_ptr hread
 obtain ⟨hi, hna⟩ := rowOf_spec hro
 have hO := (hs.obj i b _ hb hi).obj hna (by intro e; cases e)
 let g' : Gh := { φ := g.φ, G := fun b' => if b' = b then 3 else g.G b', κ := fun b' => if b' = b then none else g.κ b' }
 have hmono : ∀ d v, RepV X g.φ g.G w d v → RepV X g.φ g'.G w d v := fun d v hr => hr.mono (fun _ _ h => h) (fun b' => by
  show g.G b' ≤ if b' = b then 3 else g.G b'
  split
  · rename_i e; rw [e, hO.g0]; omega
  · exact Nat.le_refl _) (fun _ _ _ => rfl)
 have hbl : b < w.heap.size := hs.kdom b _ hO.k
 have hkne : ∀ {b' ℓ}, g.κ b' = some ℓ → ℓ ≠ .obj i → b' ≠ b := fun {b' ℓ} hk hne e => by
  subst e; rw [hO.k] at hk; cases hk; exact hne rfl
 have hOccne : ∀ {ℓ d v}, Occ g.φ w env a.tmps.toList sto ℓ d v → ℓ ≠ .obj i := fun ho e => by subst e; exact ho.not_obj
 have h1 : Sim X g' w env a.tmps.toList (sto.set i []) := by
  refine ⟨hs.len, fun t d v hd hv => hmono _ _ (hs.rep t d v hd hv), by rw [List.length_set]; exact hs.slen, fun i' b' cs' hb' hi' => ?_, fun ℓ md ty l a0 len cap ho0 hmd => ?_, fun b' ℓ hk => ?_, fun b' hb' => ?_, ?_⟩
  · by_cases e : i = i'
    · subst e
      have hlt : i < sto.length := (List.getElem?_eq_some_iff.1 hi).1
      rw [List.getElem?_set_self hlt] at hi'
      cases hi'
      show SimR X g' w i b' []
      unfold SimR arrOf
      exact .inl rfl
    · rw [List.getElem?_set_ne e] at hi'
      refine (hs.obj i' b' cs' hb' hi').map (fun b'' hk => ?_) hmono
      have hne : b'' ≠ b := hkne hk (by intro e'; cases e'; exact e rfl)
      refine ⟨?_, ?_, fun _ => ⟨rfl, rfl⟩⟩
      · show (if b'' = b then none else g.κ b'') = _
        rw [if_neg hne]; exact hk
      · intro g0
        show (if b'' = b then 3 else g.G b'') = 0
        rw [if_neg hne]; exact g0
  · have ho1 : Occ g.φ w env a.tmps.toList sto ℓ (.sl md ty l) (.slice (some a0) len cap) := by
     generalize hd0 : (D.sl md ty l) = d0 at ho0
     generalize hv0 : Value.slice (some a0) len cap = v0 at ho0
     cases ho0 with
     | leaf hd hv => subst hd0; subst hv0; exact .leaf hd hv
     | agg hd hv hj he => subst hd0; subst hv0; exact .agg hd hv hj he
     | tup hd hv hj he => subst hd0; subst hv0; exact .tup hd hv hj he
     | cell hi2 hb2 hj hv =>
      rename_i i2 j2 b2 cs2
      subst hd0; subst hv0
      by_cases e : i = i2
      · subst e
        have hlt : i < sto.length := (List.getElem?_eq_some_iff.1 hi).1
        rw [List.getElem?_set_self hlt] at hi2
        cases hi2
        simp at hj
      · rw [List.getElem?_set_ne e] at hi2
        exact .cell hi2 hb2 hj hv
    obtain ⟨hk, hg, sp⟩ := hs.own ℓ md ty l a0 len cap ho1 hmd
    have hne := hkne hk (hOccne ho1)
    refine ⟨?_, ?_, sp⟩
    · show (if a0.block = b then none else g.κ a0.block) = _
      rw [if_neg hne]; exact hk
    · show (if a0.block = b then 3 else g.G a0.block) = _
      rw [if_neg hne]; exact hg
  · have hk : (if b' = b then none else g.κ b') = some ℓ := hk
    split at hk
    · cases hk
    · exact hs.kdom b' ℓ hk
  · show (if b' = b then 3 else g.G b') = 0
    rw [if_neg (by omega)]; exact hs.gdom b' hb'
  · refine hs.glob.names fun b' hb' => ?_
    show (if b' = b then none else g.κ b') = none
    split
    · rfl
    · exact hb'
 have e1 : Ext g w g' w := by
  refine ⟨Nat.le_refl _, rfl, rfl, rfl, fun _ _ _ => rfl, fun _ _ _ => rfl, fun b' => ?_, fun b' _ hn => ?_, fun b' _ hn => ?_, fun _ _ h => h⟩
  · show g.G b' ≤ if b' = b then 3 else g.G b'
    split
    · rename_i e; rw [e, hO.g0]; omega
    · exact Nat.le_refl _
  · show (if b' = b then 3 else g.G b') = g.G b'
    rw [if_neg]
    intro e; rw [e, hO.k] at hn; cases hn
  · show (if b' = b then none else g.κ b') = none
    split
    · rfl
    · exact hn
 have hr : RepV X g'.φ g'.G w (.err (.fault c p u)) (.iface t (.pointer (some ⟨b, 0, none⟩))) := by
  obtain ⟨v0, c0, _, r0⟩ := hO.cell 0 _ rfl
  obtain ⟨v1, c1, _, r1⟩ := hO.cell 1 _ rfl
  obtain ⟨v2, c2, _, r2⟩ := hO.cell 2 _ rfl
  obtain ⟨rfl, i0⟩ := rep_int r0
  obtain ⟨rfl, i1⟩ := rep_int r1
  rw [← hX]
  exact .errFault (by show 0 + 3 ≤ if b = b then 3 else g.G b; rw [if_pos rfl]; omega) c0 c1 c2 i0 i1 (hmono _ _ r2)
 exact ⟨.iface t (.pointer (some ⟨b, 0, none⟩)), w, g', _, _, .inl (by simp [execOp, ho, run_makeInterface, hc, hv]), h, h1.put o.dst _ _ hr rfl, e1⟩
theorem xV_sound (hcx : CxOk P X cx) (hs : Sim X g w env a.tmps.toList sto) {F : (D → Sto → Option R) → Option R} (hF : xV cx o (rd env) sto = some F) (h : F (fun d s => k ⟨put (xL o env) o.dst d, s⟩) = some r) : OpOk P X o a w g k r := by
 unfold xV at hF
 split at hF
 · rename_i x ho
   have hL : xL o env = env := by simp [xL, ho]
   rw [hL] at h
   split at hF
   · rename_i d hd
     split at hF
     · rename_i hx
       cases hF
       rw [hd] at h
       exact op_xnil x (.inl ho) hs _ hd hx h
     · cases hF
   · cases hF
 · rename_i x ho
   have hL : xL o env = env := by simp [xL, ho]
   rw [hL] at h
   split at hF
   · rename_i d hd
     split at hF
     · rename_i hx
       cases hF
       rw [hd] at h
       exact op_xnil x (.inr ho) hs _ hd hx h
     · cases hF
   · cases hF
 · rename_i t x ho
   have hL : xL o env = left env x := by simp [xL, ho]
   rw [hL] at h
   split at hF
   · split at hF
     · cases hF
       split at h
       · rename_i hf
         obtain ⟨hl, _, h1⟩ := fits_spec hf
         exact op_xbox t x ho hs (by intro e; rw [e] at hl; simp at hl; omega) _ h
       · cases h
     · cases hF
   · cases hF
 · rename_i t x ho
   have hL : xL o env = env := by simp [xL, ho]
   rw [hL] at h
   split at hF
   · rename_i e i ty kk off ht hx
     split at hF
     · rename_i p ha
       split at hF
       · rename_i h1 h2
         cases hF
         obtain ⟨y, hy, hk⟩ := Option.bind_eq_some_iff.1 h
         exact op_xload t x ho hs (hcx.tab _ _ ht) ha hx (Nat.eq_of_beq_eq_true h1) (Nat.le_of_ble_eq_true h2) hy hk
       · cases hF
     · cases hF
   · cases hF
 · rename_i t x y ho
   have hL : xL o env = left env y := by simp [xL, ho]
   rw [hL] at h
   split at hF
   · rename_i e i ty kk off ht hx
     split at hF
     · rename_i p ha
       split at hF
       · rename_i h1 h2 h3
         cases hF
         obtain ⟨z, hz, hk⟩ := Option.bind_eq_some_iff.1 h
         split at hk
         · rename_i hd
           exact op_xstore t x y ho hs (hcx.tab _ _ ht) ha hx (Nat.eq_of_beq_eq_true h1) (Nat.le_of_ble_eq_true h2) h3 hz hd hk
         · cases hk
       · cases hF
     · cases hF
   · cases hF
 · rename_i t x f ho
   have hL : xL o env = env := by simp [xL, ho]
   rw [hL] at h
   split at hF
   · rename_i ht hx
     split at hF
     · rename_i fi hfi
       split at hF
       · rename_i hz
         cases hF
         exact op_xfield hcx t x f ho hs ht rfl hfi (by intro e; rw [e] at hz; cases hz) hx h
       · cases hF
     · cases hF
   · cases hF
 · rename_i t x ix ho
   have hL : xL o env = env := by simp [xL, ho]
   rw [hL] at h
   split at hF
   · rename_i hx hi
     split at hF
     · rename_i p ha
       split at hF
       · rename_i hty
         cases hF
         obtain ⟨e, he, hk⟩ := Option.bind_eq_some_iff.1 h
         exact op_xindex hcx t x ix ho hs hx ha hty hi he hk
       · cases hF
     · cases hF
   · cases hF
 · rename_i t x lo hi ho
   have hL : xL o env = env := by simp [xL, ho]
   rw [hL] at h
   split at hF
   · rename_i hx
     exact op_xslice hcx t x lo hi ho hs hx hF h
   · cases hF
 · rename_i args ats ho
   have hL : xL o env = env := by simp [xL, ho]
   rw [hL] at h
   split at hF
   · rename_i x t hargs hats
     have ho' : o.op = .call { callee := .builtin .len, args := #[x], argTypes := #[t] } := by
      rw [ho]
      have e1 : args = #[x] := by apply Array.ext'; exact hargs
      have e2 : ats = #[t] := by apply Array.ext'; exact hats
      rw [e1, e2]
     split at hF
     · rename_i hx ht
       split at hF
       · rename_i p ha
         cases hF
         exact op_xlen hcx ho' hs ht rfl hx ha h
       · cases hF
     · cases hF
   · cases hF
 · rename_i args ats ho
   split at hF
   · rename_i x y t t2 hargs hats
     have hL : xL o env = left env x := by simp [xL, ho, hargs]
     rw [hL] at h
     have ho' : o.op = .call { callee := .builtin .append, args := #[x, y], argTypes := #[t, t2] } := by
      rw [ho]
      have e1 : args = #[x, y] := by apply Array.ext'; exact hargs
      have e2 : ats = #[t, t2] := by apply Array.ext'; exact hats
      rw [e1, e2]
     split at hF
     · rename_i hx ht2
       rw [left_hw hx] at h
       exact op_xappend hcx ho' hs hx ht2 hF h
     · rename_i ht2 _
       split at hF
       · rename_i hy
         split at hF
         · rename_i p ha
           cases hF
           exact op_xtail hcx ho' hs hy ht2 ha h
         · cases hF
       · cases hF
     · cases hF
   · cases hF
 · rename_i args ats ho
   have hL : xL o env = env := by simp [xL, ho]
   rw [hL] at h
   split at hF
   · rename_i x t hargs hats
     have ho' : o.op = .call { callee := .builtin .clear, args := #[x], argTypes := #[t] } := by
      rw [ho]
      have e1 : args = #[x] := by apply Array.ext'; exact hargs
      have e2 : ats = #[t] := by apply Array.ext'; exact hats
      rw [e1, e2]
     split at hF
     · rename_i hx
       split at hF
       · rename_i p ha
         split at hF
         · rename_i hb
           exact op_xclear hcx ho' hs hx ha (Nat.eq_of_beq_eq_true hb) hF h
         · cases hF
       · cases hF
     · cases hF
   · cases hF
 · rename_i t len parts ho
   have hL : xL o env = env := by simp [xL, ho]
   rw [hL] at h
   split at hF
   · split at hF
     · rename_i hp
       split at hF
       · rename_i h0 ht
         split at hF
         · rename_i he
           cases hF
           obtain rfl := Nat.eq_of_beq_eq_true h0
           exact op_xbuild hcx ho hp hs _ ht rfl he h
         · cases hF
       · cases hF
     · cases hF
   · cases hF
 · rename_i x i ho
   have hL : xL o env = env := by simp [xL, ho]
   rw [hL] at h
   split at hF
   · rename_i cs hx
     split at hF
     · rename_i c hc0
       cases hF
       have hr := hs.read x
       rw [hx] at hr
       generalize hv : a.eval x = v at hr
       cases hr with
       | tup hl hcr =>
        rename_i vs
        have hci := hcr i c hc0
        have hilt : i < vs.size := by rw [hl]; exact (List.getElem?_eq_some_iff.1 hc0).1
        exact opOk_pure hs (vs.getD i undef) _ (by simp [execOp, ho, hv, Instr.extract, hilt]) hci.dup (dup_free _) h
     · cases hF
   · cases hF
 · rename_i t x ho
   have hL : xL o env = env := by simp [xL, ho]
   rw [hL] at h
   split at hF
   · rename_i htf
     split at hF
     · rename_i i hcb hx
       split at hF
       · rename_i c p u hro
         cases hF
         exact op_freeze hcx ho hs htf (conc_ok hcx hcb) hx hro h
       · cases hF
     · cases hF
   split at hF
   · rename_i kd n hcb ht hx
     cases hF
     have hr := hs.read x
     rw [hx] at hr
     obtain ⟨hv, _⟩ := rep_int hr
     exact opOk_pure hs (.iface t (a.eval x)) (.err (.num t kd n)) (by simp [execOp, ho, run_makeInterface, conc_ok hcx hcb]) (by rw [hv]; exact .errNum) rfl h
   · cases hF
   · rename_i hcb _ _
     cases hF
     exact opOk_pure hs (.iface t (a.eval x)) (.err .other) (by simp [execOp, ho, run_makeInterface, conc_ok hcx hcb]) (.errOther _ _) rfl h
   · cases hF
 · cases hF
theorem evOpN_sound (hcx : CxOk P X cx) {hc : FuncId → List D → Sto → (D → Sto → Option R) → Option R} (hok : HcOk P X hc) {rest : List Oper}
 (hs : Sim X g w env a.tmps.toList sto) (h : evOpN cx hc rest o ⟨env, sto⟩ k = some r) : OpTo P X o a w g k r := by
 unfold evOpN at h
 split at h
 · exact evOp_sound hcx hok hs h
 · split at h
   · rename_i F hF
     exact (xV_sound hcx hs hF h).to
   · exact evOp_sound hcx hok hs h
end
end Go.Ev
namespace Go.Ev
section
variable {P : Program} {X : Cfg} {R : Type} {cx : Cx}
theorem Sim.setSame {g : Gh} {w : World} {env : List D} {vals : List Value} {sto : Sto} (h : Sim X g w env vals sto) {t : Nat} {d : D} {v : Value} (hv : vals[t]? = some v) (hr : RepV X g.φ g.G w d v) (hf : d.free = true) :
 Sim X g w (env.set t d) vals sto := by
 have h1 := h.set t d v hr hf
 have e : vals.set t v = vals := by
  apply List.ext_getElem?; intro i
  by_cases e : t = i
  · subst e; rw [List.getElem?_set_self (List.getElem?_eq_some_iff.1 hv).1, hv]
  · rw [List.getElem?_set_ne e]
 rw [e] at h1; exact h1
theorem Sim.getB {g : Gh} {w : World} {env : List D} {sto : Sto} {a : Act} (h : Sim X g w env a.tmps.toList sto) {t : Nat} {d : D} (hd : env.getD t .any = d) (hne : d ≠ .any) :
 ∃ v, a.tmps[t]? = some v ∧ RepV X g.φ g.G w d v := by
 have ht : t < env.length := by
  rcases Nat.lt_or_ge t env.length with h' | h'
  · exact h'
  · rw [getD_out h'] at hd; exact absurd hd.symm hne
 have hv : t < a.tmps.size := Nat.lt_of_lt_of_eq ht (h.len.trans Array.length_toList)
 refine ⟨a.tmps[t], by simp [hv], ?_⟩
 have := h.rep t _ a.tmps[t] (rd_tmp_get ht) (by simp [hv])
 rw [hd] at this; exact this
theorem gOp_sound (hcx : CxOk P X cx) {hc : FuncId → List D → Sto → (D → Sto → Option R) → Option R} (hok : HcOk P X hc) {ops : Array Oper} {o : Oper} {Q : Exit → Act → World → Prop} {next : Act → World → Prop} {k : St → Option R} {r : R}
 {env : List D} {sto : Sto} {a : Act} {w : World} {g : Gh} (h : gOp cx hc ops o ⟨env, sto⟩ k = some r) (hs : Sim X g w env a.tmps.toList sto) (hd : a.defers = [])
 (hn : ∀ a' w' g' env' sto', k ⟨env', sto'⟩ = some r → Sim X g' w' env' a'.tmps.toList sto' → Ext g w g' w' → a'.defers = [] → next a' w') :
 if Region.wanted o (yielded ops a.tmps) then o.wp P a w next Q ∨ (o.asks P a w ∧ LetsOut Q) else next (a.put o.dst undef) w := by
 have run : ∀ env, evOpN cx hc ops.toList o ⟨env, sto⟩ k = some r → Sim X g w env a.tmps.toList sto → o.wp P a w next Q := by
  intro env h hs
  refine evOpN_sound hcx hok hs h _ _ (fun v w' g' env' sto' hk hs' he => ?_)
  rw [← Act.put_toList] at hs'
  exact hn _ w' g' env' sto' hk hs' he (by rw [Ev.Act.put_defers]; exact hd)
 have skip : ∀ env, k ⟨put env o.dst (.tup []), sto⟩ = some r → Sim X g w env a.tmps.toList sto → next (a.put o.dst undef) w := by
  intro env h hs
  have h1 := hs.put o.dst (.tup []) undef (.tup rfl (fun j c hj => by simp at hj)) rfl
  rw [← Act.put_toList] at h1
  exact hn _ w g _ sto h h1 (.refl _ _) (by rw [Ev.Act.put_defers]; exact hd)
 unfold gOp guardK at h
 split at h
 · rename_i hg
   rw [if_pos (by simp [Region.wanted, hg])]
   exact .inl (run env h hs)
 · rename_i j want hg
   split at h
   · rename_i d hdst
     have hy : ∀ b : Bool, a.tmps[d]? = some (.bool b) → yielded ops a.tmps j = some b := by
      intro b hb
      unfold dstOf at hdst
      simp [yielded, hdst, hb]
     have hset : ∀ b : Bool, env.getD d .any = .bool b → Sim X g w (env.set d (.bool b)) a.tmps.toList sto ∧ yielded ops a.tmps j = some b := by
      intro b hb
      obtain ⟨v, hv, hr⟩ := hs.getB hb (by intro h; cases h)
      have hvb := rep_bool hr
      subst hvb
      exact ⟨hs.setSame (by simpa using hv) (.bool b) rfl, hy b hv⟩
     split at h
     · rename_i b hb
       split at h
       · obtain ⟨h1, h2⟩ := hset true hb
         split at h
         · rw [if_pos (by simp [Region.wanted, hg, h2])]; exact .inl (run _ h h1)
         · rw [if_neg (by simp [Region.wanted, hg, h2])]; exact skip _ h h1
       · obtain ⟨h1, h2⟩ := hset false hb
         split at h
         · rw [if_neg (by simp [Region.wanted, hg, h2])]; exact skip _ h h1
         · rw [if_pos (by simp [Region.wanted, hg, h2])]; exact .inl (run _ h h1)
     · rename_i hb
       obtain ⟨v, hv, hr⟩ := hs.getB hb (by intro h; cases h)
       have hy2 : yielded ops a.tmps j = none := by
        unfold dstOf at hdst
        cases hr with
        | tup hl _ => simp [yielded, hdst, hv]
       rw [if_neg (by simp [Region.wanted, hg, hy2])]
       exact skip _ h hs
     · cases h
   · cases h
theorem evOps_sound (hcx : CxOk P X cx) {hc : FuncId → List D → Sto → (D → Sto → Option R) → Option R} (hok : HcOk P X hc) {ops : Array Oper} {Q : Exit → Act → World → Prop} {k : St → Option R} {r : R} :
 ∀ (rest : List Oper) (env : List D) (sto : Sto) (a : Act) (w : World) (g : Gh), evOps cx hc ops rest ⟨env, sto⟩ k = some r → Sim X g w env a.tmps.toList sto → a.defers = [] →
  (∀ a' w' g' env' sto', k ⟨env', sto'⟩ = some r → Sim X g' w' env' a'.tmps.toList sto' → Ext g w g' w' → a'.defers = [] → Q .normal a' w') → wpList P ops Q rest a w
 | [], env, sto, a, w, g, h, hs, hd, hq => hq a w g env sto h hs (.refl _ _) hd
 | o :: rest, env, sto, a, w, g, h, hs, hd, hq => by
  unfold wpList
  exact gOp_sound hcx hok h hs hd (fun a' w' g' env' sto' hk hs' he hd' => evOps_sound hcx hok rest env' sto' a' w' g' hk hs' hd' (fun a2 w2 g2 env2 sto2 hk2 hs2 he2 hd2 => hq a2 w2 g2 env2 sto2 hk2 hs2 (he.trans he2) hd2))
def CPost (X : Cfg) (g : Gh) (w : World) (k : Exit → St → Option R) (r : R) : Exit → Act → World → Prop :=
 fun e a' w' => ∃ env sto g', k e ⟨env, sto⟩ = some r ∧ Sim X g' w' env a'.tmps.toList sto ∧ Ext g w g' w' ∧ a'.defers = []
def LOk (cx : Cx) (hc : (R : Type) → FuncId → List D → Sto → (D → Sto → Option R) → Option R) (keep : List (Nat × LH)) (c : Code) : Prop :=
 ∀ lh lc, (firstRegion c).bind (look keep) = some lh → lh.con = some lc → ∀ (R : Type) (st : St) (n0 : Nat) (k : Exit → St → Option R) (r : R), lc R (norm lh n0 st) k = some r →
  ∃ n, loopN (fun st k => evCode cx (hc R) keep c st k) (norm lh n0) k n (norm lh n0 st) = some r
def Wk (d d' : D) : Prop := d' = d ∨ d' = .any ∨ ∃ s : Sh, d' = s.on d
theorem roD_rep {φ G} {w : World} (t : Ty) {d : D} {v : Value} (h : RepV X φ G w d v) : RepV X φ G w (roD t d) v := by
 unfold roD
 split
 · cases h; exact .slNil (by decide)
 · exact h.dup1
 · exact h.dup1
 · exact h
theorem not_keeps {md : Md} {n cap : Nat} (h : md.keeps n cap) (h1 : md ≠ .own) (h2 : md ≠ .oc) : False := by
 rcases h with e | ⟨e, _⟩
 · exact h1 e
 · exact h2 e
theorem roD_own {t : Ty} {d : D} {md : Md} {n cap : Nat} (hmd : md.keeps n cap) {ty : Ty} {l : List ty.den} (h : roD t d = .sl md ty l) : d = .sl md ty l := by
 unfold roD at h
 split at h
 · cases h; exact (not_keeps hmd (by decide) (by decide)).elim
 · cases h; exact (not_keeps hmd (by decide) (by decide)).elim
 · cases h; exact (not_keeps hmd (by decide) (by decide)).elim
 · exact h
theorem roL_length : ∀ (l : List (Option Ty)) (ds : List D), (roL l ds).length = ds.length
 | [], ds => by cases ds <;> rfl
 | some _ :: _, [] => rfl
 | none :: _, [] => rfl
 | some t :: r, d :: ds => by simp [roL, roL_length r ds]
 | none :: r, d :: ds => by simp [roL, roL_length r ds]
theorem roL_get : ∀ (l : List (Option Ty)) (ds : List D) (j : Nat) c', (roL l ds)[j]? = some c' → ∃ c, ds[j]? = some c ∧ (c' = c ∨ ∃ t, c' = roD t c)
 | [], ds, j, c', h => by cases ds <;> exact ⟨c', h, .inl rfl⟩
 | some _ :: _, [], j, c', h => by simp [roL] at h
 | none :: _, [], j, c', h => by simp [roL] at h
 | some t :: r, d :: ds, 0, c', h => by simp [roL] at h; exact ⟨d, rfl, .inr ⟨t, h.symm⟩⟩
 | none :: r, d :: ds, 0, c', h => by simp [roL] at h; exact ⟨d, rfl, .inl h.symm⟩
 | some t :: r, d :: ds, j + 1, c', h => by simp [roL] at h; simpa using roL_get r ds j c' h
 | none :: r, d :: ds, j + 1, c', h => by simp [roL] at h; simpa using roL_get r ds j c' h
theorem rep_aggs {φ G} {w : World} {ds : List D} {v : Value} (h : RepV X φ G w (.agg ds) v) : ∃ vs, v = .agg vs ∧ vs.size = ds.length ∧ ∀ (j : Nat) c, ds[j]? = some c → RepV X φ G w c (vs.getD j undef) := by
 cases h with
 | agg hl hr => exact ⟨_, rfl, hl, hr⟩
theorem sh_rep {φ G} {w : World} (s : Sh) {d : D} {v : Value} (h : RepV X φ G w d v) : RepV X φ G w (s.on d) v := by
 unfold Sh.on
 split
 · obtain ⟨vs, rfl, hl, hr⟩ := rep_aggs h
   refine .agg (by rw [roL_length]; exact hl) fun j c' hj => ?_
   obtain ⟨c, hc, e | ⟨t, e⟩⟩ := roL_get _ _ j c' hj
   · subst e; exact hr j c' hc
   · subst e; exact roD_rep t (hr j c hc)
 · exact h
 · exact h
 · cases h; exact .slNil (by decide)
 · exact h
 · cases h; exact .slNil (by decide)
 · exact h.dup1
 · exact h.dup1
 · exact h
 · cases h; exact .slNil (by decide)
 · exact rep_oc (.inl rfl) h
 · exact rep_oc (.inr rfl) h
 · exact h
theorem wk_rep {φ G} {w : World} {d d' : D} (hw : Wk d d') {v : Value} (h : RepV X φ G w d v) : RepV X φ G w d' v := by
 rcases hw with rfl | rfl | ⟨s, rfl⟩
 · exact h
 · exact .any v
 · exact sh_rep s h
theorem cap_full {φ G} {w : World} {t : Ty} {l : List t.den} {a : Option Addr} {len cap : Nat} (h : RepV X φ G w (.sl .cap t l) (.slice a len cap)) : cap = l.length := by
 rcases rep_slice_inv h with ⟨e0, _, _, e, _⟩ | ⟨e0, _, _, _, e, _⟩ | ⟨_, _, _, _, _, _, e, _⟩
 · subst e0; exact e
 · subst e0; exact e (.inl rfl)
 · exact e rfl
theorem wk_own {φ G} {w : World} {d d' : D} (hw : Wk d d') {v : Value} (h : RepV X φ G w d v) : d' = d ∨
 ((∀ md ty l a len cap, d' = .sl md ty l → v = .slice (some a) len cap → md.keeps l.length cap → d = .sl .own ty l) ∧
  (∀ cs', d' = .agg cs' → ∃ cs, d = .agg cs ∧ ∀ (j : Nat) (md : Md) (n cap : Nat) ty l, md.keeps n cap → cs'[j]? = some (.sl md ty l) → cs[j]? = some (.sl md ty l)) ∧ (∀ cs, d' ≠ .tup cs)) := by
 have low : ∀ {t : Ty} {l : List t.den} {md ty l' a len cap}, D.sl .ro t l = .sl md ty l' → v = .slice (some a) len cap → md.keeps l'.length cap → d = .sl .own ty l' := fun h _ hk => by
  cases h; exact (not_keeps hk (by decide) (by decide)).elim
 rcases hw with rfl | rfl | ⟨s, rfl⟩
 · exact .inl rfl
 · exact .inr ⟨(fun _ _ _ _ _ _ h => by cases h), (fun _ h => by cases h), (fun _ h => by cases h)⟩
 · unfold Sh.on
   split
   · refine .inr ⟨(fun _ _ _ _ _ _ h => by cases h), (fun cs' h => ?_), (fun _ h => by cases h)⟩
     cases h
     refine ⟨_, rfl, fun j md n cap ty l hk hj => ?_⟩
     obtain ⟨c, hc, e | ⟨t, e⟩⟩ := roL_get _ _ j _ hj
     · subst e; exact hc
     · rw [hc, roD_own hk e.symm]
   · exact .inl rfl
   · exact .inl rfl
   · refine .inr ⟨fun _ _ _ _ _ _ _ hv => ?_, (fun _ h => by cases h), (fun _ h => by cases h)⟩
     cases h; cases hv
   · exact .inl rfl
   · exact .inr ⟨fun _ _ _ _ _ _ e hv hk => low e hv hk, (fun _ h => by cases h), (fun _ h => by cases h)⟩
   · exact .inr ⟨fun _ _ _ _ _ _ e hv hk => low e hv hk, (fun _ h => by cases h), (fun _ h => by cases h)⟩
   · exact .inr ⟨fun _ _ _ _ _ _ e hv hk => low e hv hk, (fun _ h => by cases h), (fun _ h => by cases h)⟩
   · exact .inl rfl
   · refine .inr ⟨fun _ _ _ _ _ _ _ hv => ?_, (fun _ h => by cases h), (fun _ h => by cases h)⟩
     cases h; cases hv
   · refine .inr ⟨fun _ _ _ _ _ _ e _ _ => ?_, (fun _ h => by cases h), (fun _ h => by cases h)⟩
     cases e; rfl
   · refine .inr ⟨fun _ _ _ _ _ _ e hv hk => ?_, (fun _ h => by cases h), (fun _ h => by cases h)⟩
     cases e; subst hv
     have := cap_full h
     rcases hk with e | ⟨_, hlt⟩
     · cases e
     · omega
   · exact .inl rfl
def Wk1 (d d' : D) : Prop := d' = d ∨ ∃ s : Sh, d' = s.on d
theorem Wk1.wk {d d' : D} (h : Wk1 d d') : Wk d d' := h.elim .inl (fun h => .inr (.inr h))
theorem wk_arr {t : Ty} {l : List t.den} {d' : D} (h : Wk1 (.arr t l) d') : d' = .arr t l := by
 rcases h with h | ⟨s, h⟩
 · exact h
 · rw [h]; cases s <;> rfl
theorem SimR.wk {g : Gh} {w : World} {i c : Nat} {cs cs' : List D} (h : SimR X g w i c cs) (hlen : cs'.length = cs.length)
 (hcs : ∀ (j : Nat) d', cs'[j]? = some d' → ∃ d, cs[j]? = some d ∧ Wk1 d d') : SimR X g w i c cs' := by
 have hcs1 := hcs
 replace hcs : ∀ (j : Nat) d', cs'[j]? = some d' → ∃ d, cs[j]? = some d ∧ Wk d d' := fun j d' hj => let ⟨d, h1, h2⟩ := hcs1 j d' hj; ⟨d, h1, h2.wk⟩
 cases ha : arrOf cs with
 | some p => exact h.conv (by
  have e := arrOf_some ha
  subst e
  match cs', hlen with
  | [d'], _ =>
   obtain ⟨d, h1, h2⟩ := hcs1 0 d' rfl
   simp at h1; subst h1
   rw [wk_arr h2]) (by intro e; subst e; cases ha) (fun b k => ⟨k, id, fun _ => ⟨rfl, rfl⟩⟩) (fun _ _ _ h => h) (fun j d' hj => by
  obtain ⟨d, h1, h2⟩ := hcs j d' hj
  exact ⟨d, h1, fun v hr => wk_rep h2 hr⟩)
 | none =>
  by_cases hn : cs = []
  · subst hn
    have : cs' = [] := List.length_eq_zero_iff.1 hlen
    subst this
    unfold SimR arrOf; exact .inl rfl
  · obtain ⟨k, g0, cell⟩ := h.obj ha hn
    have hcell' : ∀ (j : Nat) c', cs'[j]? = some c' → ∃ u, w.cell? ⟨c, j, none⟩ = some u ∧ w.frozen? ⟨c, j, none⟩ = false ∧ RepV X g.φ g.G w c' u := by
     intro j d' hj
     obtain ⟨d, hd, hw⟩ := hcs j d' hj
     obtain ⟨v, hv, hf, hr⟩ := cell j d hd
     exact ⟨v, hv, hf, wk_rep hw hr⟩
    exact SimR.ofO ⟨k, g0, hcell'⟩ (arrOf_rep (f := fun j => (w.cell? ⟨c, j, none⟩).getD undef) (fun j c hj => by obtain ⟨u, hu, _, hr⟩ := hcell' j c hj; rw [hu]; exact hr))
theorem Sim.weaken {g : Gh} {w : World} {env env' : List D} {vals : List Value} {sto sto' : Sto} (h : Sim X g w env vals sto) (hl : env'.length = env.length)
 (he : ∀ (t : Nat) d', env'[t]? = some d' → ∃ d, env[t]? = some d ∧ Wk d d') (hsl : sto'.length = sto.length)
 (hso : ∀ (i : Nat) cs', sto'[i]? = some cs' → ∃ cs, sto[i]? = some cs ∧ cs'.length = cs.length ∧ ∀ (j : Nat) d', cs'[j]? = some d' → ∃ d, cs[j]? = some d ∧ Wk1 d d') : Sim X g w env' vals sto' := by
 have hobj : ∀ (i : Nat) b cs', g.φ[i]? = some b → sto'[i]? = some cs' → SimR X g w i b cs' := by
  intro i b cs' hb hi
  obtain ⟨cs, hi0, hlen, hcs⟩ := hso i cs' hi
  exact (h.obj i b cs hb hi0).wk hlen hcs
 refine ⟨hl.trans h.len, fun t d' v hd hv => ?_, by rw [hsl]; exact h.slen, hobj, ?_, h.kdom, h.gdom, h.glob⟩
 · obtain ⟨d, hd0, hw⟩ := he t d' hd
   exact wk_rep hw (h.rep t d v hd0 hv)
 · intro ℓ md ty l a len cap ho hmd
   suffices ho' : ∃ md' : Md, md'.keeps l.length cap ∧ Occ g.φ w env vals sto ℓ (.sl md' ty l) (.slice (some a) len cap) by
    obtain ⟨md', hk, ho'⟩ := ho'
    exact h.own _ md' _ _ _ _ _ ho' hk
   generalize hx : D.sl md ty l = x at ho
   generalize hy : Value.slice (some a) len cap = y at ho
   cases ho with
   | leaf hd hv =>
    obtain ⟨d, hd0, hw⟩ := he _ _ hd
    rcases wk_own hw (h.rep _ d _ hd0 hv) with e | ⟨h1, _⟩
    · subst hx; subst hy; exact ⟨md, hmd, .leaf (by rw [hd0, e]) hv⟩
    · have := h1 _ _ _ _ _ _ hx.symm hy.symm hmd
      subst hy; exact ⟨.own, .inl rfl, .leaf (by rw [hd0, this]) hv⟩
   | agg hd hv hj he' =>
    obtain ⟨d, hd0, hw⟩ := he _ _ hd
    rcases wk_own hw (h.rep _ d _ hd0 hv) with e | ⟨_, h2, _⟩
    · subst hx; subst hy; rw [← e] at hd0; exact ⟨md, hmd, .agg hd0 hv hj he'⟩
    · obtain ⟨cs, hcs, hown⟩ := h2 _ rfl
      subst hcs; subst hx; subst hy
      exact ⟨md, hmd, .agg hd0 hv (hown _ md _ _ _ _ hmd hj) he'⟩
   | tup hd hv hj he' =>
    obtain ⟨d, hd0, hw⟩ := he _ _ hd
    rcases wk_own hw (h.rep _ d _ hd0 hv) with e | ⟨_, _, h2⟩
    · subst hx; subst hy; rw [← e] at hd0; exact ⟨md, hmd, .tup hd0 hv hj he'⟩
    · exact absurd rfl (h2 _)
   | cell hi hb hj hv =>
    obtain ⟨cs, hi0, _, hcs⟩ := hso _ _ hi
    obtain ⟨d, hd0, hw⟩ := hcs _ _ hj
    have hna : ∀ t l, d ≠ .arr t l := by
     intro t l e; subst e; subst hx
     cases wk_arr hw
    replace hw := hw.wk
    obtain ⟨v, hv0, _, hr⟩ := ((h.obj _ _ cs hb hi0).get hd0 hna).cell _ d hd0
    rw [hv0] at hv; cases hv
    rcases wk_own hw hr with e | ⟨h1, _⟩
    · subst hx; subst hy; exact ⟨md, hmd, .cell hi0 hb (by rw [hd0, e]) hv0⟩
    · have := h1 _ _ _ _ _ _ hx.symm hy.symm hmd
      subst hy; exact ⟨.own, .inl rfl, .cell hi0 hb (by rw [hd0, this]) hv0⟩
end
end Go.Ev
namespace Go.Ev
section
variable {R : Type} {cx : Cx}
def Chg (S : List Nat) (env env' : List D) : Prop := env'.length = env.length ∧ ∀ t, t ∉ S → env'[t]? = env[t]?
theorem Chg.refl (S : List Nat) (env : List D) : Chg S env env := ⟨rfl, fun _ _ => rfl⟩
theorem Chg.trans {S : List Nat} {a b c : List D} (h : Chg S a b) (k : Chg S b c) : Chg S a c := ⟨k.1.trans h.1, fun t ht => (k.2 t ht).trans (h.2 t ht)⟩
theorem Chg.mono {S S' : List Nat} {a b : List D} (h : Chg S a b) (hs : ∀ t, t ∈ S → t ∈ S') : Chg S' a b := ⟨h.1, fun t ht => h.2 t (fun h' => ht (hs t h'))⟩
theorem Chg.set {S : List Nat} {t : Nat} (ht : t ∈ S) (env : List D) (d : D) : Chg S env (env.set t d) :=
 ⟨by simp, fun s hs => List.getElem?_set_ne (fun e => hs (by rw [← e]; exact ht))⟩
theorem rd_set {env : List D} {t : Nat} {d : D} {x : Operand} (h : t ∉ tmpOf x) : rd (env.set t d) x = rd env x := by
 cases x with
 | tmp s => have hne : t ≠ s := fun e => h (by simp [tmpOf, e]); simp [rd, List.getD, List.getElem?_set_ne hne]
 | _ => rfl
theorem left_set {env : List D} {t : Nat} {d : D} {x : Operand} (h : t ∉ tmpOf x) : left (env.set t d) x = (left env x).set t d := by
 cases x with
 | tmp s =>
  have hne : t ≠ s := fun e => h (by simp [tmpOf, e])
  have := rd_set (env := env) (d := d) h
  simp only [rd] at this
  simp only [left, this]
  exact List.set_comm _ _ hne
 | _ => rfl
theorem put_set {env : List D} {t : Nat} {d v : D} {o : Option Tmp} (h : t ∉ dstT o) : put (env.set t d) o v = (put env o v).set t d := by
 cases o with
 | none => rfl
 | some s => have hne : t ≠ s := fun e => h (by simp [dstT, e]); exact List.set_comm _ _ hne
theorem Chg.left {S : List Nat} {x : Operand} (h : ∀ t, t ∈ tmpOf x → t ∈ S) (env : List D) : Chg S env (left env x) := by
 cases x with
 | tmp s => exact .set (h s (by simp [tmpOf])) _ _
 | _ => exact .refl _ _
theorem Chg.put {S : List Nat} {o : Option Tmp} (h : ∀ t, t ∈ dstT o → t ∈ S) (env : List D) (v : D) : Chg S env (put env o v) := by
 cases o with
 | none => exact .refl _ _
 | some s => exact .set (h s (by simp [dstT])) _ _
def NF (S : List Nat) (calm : Bool) (st : St) (X : (St → Option R) → Option R) : Prop :=
 ∃ s : Option St, (∀ k, X k = s.bind k) ∧ ∀ st', s = some st' → Chg S st.env st'.env ∧ (calm = true → st'.sto = st.sto)
structure OpFoot (cx : Cx) (hc : FuncId → List D → Sto → (D → Sto → Option R) → Option R) (all : List Oper) (o : Oper) (f : Foot) : Prop where
 nf : ∀ st, NF (dstT o.dst ++ f.wr) f.calm st (evOp cx hc all o st)
 loc : ∀ (t : Nat) d env sto k, t ∉ f.rd → t ∉ dstT o.dst → t ∉ f.wr → evOp cx hc all o ⟨env.set t d, sto⟩ k = evOp cx hc all o ⟨env, sto⟩ (fun st' => k ⟨st'.env.set t d, st'.sto⟩)
 sf : f.apart = true → ∀ env sto sto' k, evOp cx hc all o ⟨env, sto'⟩ k = evOp cx hc all o ⟨env, sto⟩ (fun st' => k ⟨st'.env, sto'⟩)
def Bnd (V : (D → Option R) → Option R) : Prop := ∃ s : Option D, ∀ k, V k = s.bind k
theorem Bnd.none : Bnd (R := R) fun _ => none := ⟨.none, fun _ => rfl⟩
theorem Bnd.pure (d : D) : Bnd (R := R) fun k => k d := ⟨some d, fun _ => rfl⟩
variable {hc : FuncId → List D → Sto → (D → Sto → Option R) → Option R} {all : List Oper} {o : Oper} {f : Foot}
theorem foot_val (V : List D → (D → Option R) → Option R) (L : List D → List D) (hev : ∀ env sto k, evOp cx hc all o ⟨env, sto⟩ k = V env (fun d => k ⟨put (L env) o.dst d, sto⟩)) (hb : ∀ env, Bnd (V env))
 (hl : ∀ env (t : Nat) d, t ∉ f.rd → V (env.set t d) = V env) (hL : ∀ env, Chg f.wr env (L env)) (hLs : ∀ env (t : Nat) d, t ∉ f.rd → t ∉ f.wr → L (env.set t d) = (L env).set t d) : OpFoot cx hc all o f := by
 refine ⟨fun st => ?_, fun t d env sto k h1 h2 h3 => ?_, fun _ env sto sto' k => ?_⟩
 · obtain ⟨s, hs⟩ := hb st.env
   refine ⟨s.map fun d => ⟨put (L st.env) o.dst d, st.sto⟩, fun k => ?_, fun st' h => ?_⟩
   · rw [show st = ⟨st.env, st.sto⟩ from rfl, hev, hs]; cases s <;> rfl
   · cases s with
     | none => cases h
     | some d =>
      cases h
      exact ⟨((hL st.env).mono (fun t h => List.mem_append_right _ h)).trans (.put (fun t h => List.mem_append_left _ h) _ _), fun _ => rfl⟩
 · rw [hev, hev, hl env t d h1, hLs env t d h1 h3]
   simp only [put_set h2]
 · rw [hev, hev]
theorem foot_plain (V : List D → (D → Option R) → Option R) (hev : ∀ env sto k, evOp cx hc all o ⟨env, sto⟩ k = V env (fun d => k ⟨put env o.dst d, sto⟩)) (hb : ∀ env, Bnd (V env))
 (hl : ∀ env (t : Nat) d, t ∉ f.rd → V (env.set t d) = V env) : OpFoot cx hc all o f :=
 foot_val V id hev hb hl (fun _ => .refl _ _) (fun _ _ _ _ _ => rfl)
theorem foot_left (V : List D → (D → Option R) → Option R) (x : Operand) (hx : ∀ t, t ∈ tmpOf x → t ∈ f.wr) (hev : ∀ env sto k, evOp cx hc all o ⟨env, sto⟩ k = V env (fun d => k ⟨put (left env x) o.dst d, sto⟩)) (hb : ∀ env, Bnd (V env))
 (hl : ∀ env (t : Nat) d, t ∉ f.rd → V (env.set t d) = V env) : OpFoot cx hc all o f :=
 foot_val V (left · x) hev hb hl (fun env => .left hx env) (fun env t d _ h => left_set (fun h' => h (hx t h')))
theorem binK_bnd (op : BinOp) (t : TypeId) (lit : Bool) (x y : D) : Bnd (R := R) (binK cx op t lit x y) := by
 have ifk : ∀ (kx ky : IntKind) (d : D), Bnd (R := R) fun k => if kx = ky then k d else none := by
  intro kx ky d
  by_cases h : kx = ky
  · exact ⟨some d, fun k => (if_pos h).trans rfl⟩
  · exact ⟨none, fun k => (if_neg h).trans rfl⟩
 have ifd : ∀ (b : Bool) (d : D), Bnd (R := R) fun k => match b with | true => k d | false => none := by
  intro b d; cases b
  · exact ⟨none, fun _ => rfl⟩
  · exact ⟨some d, fun _ => rfl⟩
 have ifz : ∀ (kx ky : IntKind) (b : Bool) (d : D), Bnd (R := R) fun k => if kx = ky then (match b with | true => none | false => k d) else none := by
  intro kx ky b d
  by_cases h : kx = ky
  · cases b
    · exact ⟨some d, fun k => (if_pos h).trans rfl⟩
    · exact ⟨none, fun k => (if_pos h).trans rfl⟩
  · exact ⟨none, fun k => (if_neg h).trans rfl⟩
 have eqb : ∀ (e : Option Bool) (f : Bool → D), Bnd (R := R) fun k => match e with | some b => k (f b) | none => none := by
  intro e f; cases e
  · exact ⟨none, fun _ => rfl⟩
  · exact ⟨some _, fun _ => rfl⟩
 cases op
 case eql => exact eqb (eqD cx t lit x y) (fun b => .bool b)
 case neq => exact eqb (eqD cx t lit x y) (fun b => .bool (!b))
 all_goals
  cases x <;> first
   | exact .none
   | (cases y <;> first
    | exact .none
    | exact .pure _
    | exact ifk _ _ _
    | exact ifd _ _
    | exact ifz _ _ _ _)
theorem unK_bnd (op : UnOp) (x : D) : Bnd (R := R) (unK op x) := by
 cases op <;> cases x <;> first | exact .none | exact .pure _
theorem Bnd.of {V : (D → Option R) → Option R} (s : Option D) (h : ∀ k, V k = s.bind k) : Bnd V := ⟨s, h⟩
theorem convK_bnd (src dst : TypeId) (x : D) : Bnd (R := R) (convK cx src dst x) := by
 refine .of (convK cx src dst x some) (fun k => ?_)
 unfold convK
 split <;> (try rfl)
 all_goals (split <;> rfl)
theorem boundK_bnd (x : D) (hi : Nat) {V : Nat → (D → Option R) → Option R} (hV : ∀ n, Bnd (V n)) : Bnd (R := R) fun k => boundK x hi fun n => V n k := by
 cases x <;> first
  | exact .none
  | skip
 rename_i kd n
 show Bnd fun k => match decide (0 ≤ n ∧ n ≤ (hi : Int)) with | true => V n.toNat k | false => none
 cases decide (0 ≤ n ∧ n ≤ (hi : Int))
 · exact .none
 · exact hV _
theorem optK_bnd (x : Option D) (d hi : Nat) {V : Nat → (D → Option R) → Option R} (hV : ∀ n, Bnd (V n)) : Bnd (R := R) fun k => optK x d hi fun n => V n k := by
 cases x with
 | none => exact hV d
 | some x => exact boundK_bnd x hi hV
theorem cut_bnd (lo hi : Option D) (d : Nat) (F : Nat → Nat → D) : Bnd (R := R) fun k => optK hi d d fun h => optK lo 0 h fun l => k (F h l) :=
 optK_bnd (V := fun h k => optK lo 0 h fun l => k (F h l)) hi d d fun h => optK_bnd (V := fun l k => k (F h l)) lo 0 h fun l => .pure _
theorem sliceK_bnd (x : D) (lo hi mx : Option D) : Bnd (R := R) (sliceK x lo hi mx) := by
 cases x
 case str s =>
  cases mx
  · exact cut_bnd lo hi s.length fun h l => .str ((s.take h).drop l)
  · exact .none
 case nils =>
  cases mx
  · exact cut_bnd lo hi 0 fun _ _ => .nils
  · exact .none
 case sl m t s =>
  cases mx with
  | none => exact cut_bnd lo hi s.length fun h l => .sl .ro t ((s.take h).drop l)
  | some mx =>
   cases mx
   case int k1 m1 =>
    cases hi with
    | none => exact .none
    | some hi =>
     cases hi
     case int k2 h2 =>
      show Bnd fun k => match decide (h2 = m1) with
       | true => boundK (.int .i64 h2) s.length fun h => optK lo 0 h fun l => k (.sl .cap t ((s.take h).drop l))
       | false => none
      cases decide (h2 = m1)
      · exact .none
      · exact boundK_bnd (V := fun h k => optK lo 0 h fun l => k (.sl .cap t ((s.take h).drop l))) _ _ fun h => optK_bnd (V := fun l k => k (.sl .cap t ((s.take h).drop l))) lo 0 h fun l => .pure _
     all_goals exact .none
   all_goals exact .none
 all_goals exact .none
theorem appendK_bnd (st : TypeId) (x y : D) : Bnd (R := R) (appendK cx st x y) := by
 refine .of (appendK cx st x y some) (fun k => ?_)
 unfold appendK
 split
 · split
   · split
     · split
       · split <;> rfl
       · split
         · split <;> rfl
         · rfl
       · split
         · split <;> rfl
         · rfl
       · split
         · split <;> rfl
         · rfl
       · rfl
     · rfl
   · rfl
 · rfl
end
end Go.Ev
namespace Go.Ev
section
variable {R : Type} {cx : Cx}
variable {hc : FuncId → List D → Sto → (D → Sto → Option R) → Option R} {all : List Oper} {o : Oper} {f : Foot}
theorem out_cons {t : Nat} {x : Operand} {r : List Operand} (h : t ∉ tmpsOf (x :: r)) : t ∉ tmpOf x ∧ t ∉ tmpsOf r := by
 simp only [tmpsOf, List.mem_append, not_or] at h; exact h
theorem argsOf_set {want : List Nat} {t : Nat} {d : D} : ∀ (args : List Operand) (i : Nat) (env : List D), t ∉ tmpsOf args → argsOf (env.set t d) want i args = ((argsOf env want i args).1, (argsOf env want i args).2.set t d)
 | [], i, env, _ => rfl
 | x :: r, i, env, h => by
  obtain ⟨h1, h2⟩ := out_cons h
  unfold argsOf
  simp only [rd_set h1, left_set h1]
  cases want.any (Nat.beq i)
  · simp only [argsOf_set r (i + 1) env h2]
  · simp only [argsOf_set r (i + 1) (left env x) h2]
theorem argsOf_chg {want : List Nat} : ∀ (args : List Operand) (i : Nat) (env : List D), Chg (tmpsOf args) env (argsOf env want i args).2
 | [], i, env => .refl _ _
 | x :: r, i, env => by
  unfold argsOf
  simp only
  cases want.any (Nat.beq i)
  · exact (argsOf_chg r (i + 1) env).mono (fun t h => by simp [tmpsOf, h])
  · exact (Chg.left (fun t h => by simp [tmpsOf, h]) env).trans ((argsOf_chg r (i + 1) (left env x)).mono (fun t h => by simp [tmpsOf, h]))
theorem fillS_set {fs : List FI} {t : Nat} {d : D} : ∀ (parts : List (Nat × Operand)) (env cs : List D), t ∉ tmpsOf (parts.map (·.2)) → fillS fs (env.set t d) parts cs = (fillS fs env parts cs).map fun p => (p.1, p.2.set t d)
 | [], env, cs, _ => rfl
 | (i, x) :: r, env, cs, h => by
  obtain ⟨h1, h2⟩ := out_cons (x := x) (r := r.map (·.2)) h
  unfold fillS
  rw [rd_set h1, left_set h1]
  cases fs[i]? with
  | none => rfl
  | some fi =>
   simp only
   cases fits (rd env x).cells fi.size
   · rfl
   · cases Nat.ble (fi.off + (rd env x).cells.length) cs.length
     · rfl
     · exact fillS_set r _ _ h2
theorem fillS_chg {fs : List FI} : ∀ (parts : List (Nat × Operand)) (env cs : List D) (p), fillS fs env parts cs = some p → Chg (tmpsOf (parts.map (·.2))) env p.2
 | [], env, cs, p, h => by cases h; exact .refl _ _
 | (i, x) :: r, env, cs, p, h => by
  unfold fillS at h
  split at h
  · split at h
    · exact (Chg.left (fun t h => by simp [tmpsOf, h]) env).trans ((fillS_chg r _ _ p h).mono (fun t h => by simp [tmpsOf] at h ⊢; exact .inr h))
    · cases h
  · cases h
theorem fillL_set {sz : Nat} {t : Nat} {d : D} : ∀ (parts : List (Nat × Operand)) (env : List D) (cs : List (List D)), t ∉ tmpsOf (parts.map (·.2)) → fillL sz (env.set t d) parts cs = fillL sz env parts cs
 | [], env, cs, _ => rfl
 | (i, x) :: r, env, cs, h => by
  obtain ⟨h1, h2⟩ := out_cons (x := x) (r := r.map (·.2)) h
  unfold fillL
  simp only [rd_set h1, fillL_set r env _ h2]
theorem foot_gen (W : List D → Sto → Option (D × List D × Sto)) (hev : ∀ env sto k, evOp cx hc all o ⟨env, sto⟩ k = (W env sto).bind fun p => k ⟨put p.2.1 o.dst p.1, p.2.2⟩)
 (hW : ∀ env sto (t : Nat) d, t ∉ f.rd → t ∉ f.wr → W (env.set t d) sto = (W env sto).map fun p => (p.1, p.2.1.set t d, p.2.2))
 (hch : ∀ env sto p, W env sto = some p → Chg f.wr env p.2.1 ∧ (f.calm = true → p.2.2 = sto)) (ha : f.apart = false) : OpFoot cx hc all o f := by
 refine ⟨fun st => ?_, fun t d env sto k h1 h2 h3 => ?_, fun h => by rw [ha] at h; cases h⟩
 · refine ⟨(W st.env st.sto).map fun p => ⟨put p.2.1 o.dst p.1, p.2.2⟩, fun k => ?_, fun st' h => ?_⟩
   · rw [show st = ⟨st.env, st.sto⟩ from rfl, hev]; cases W st.env st.sto <;> rfl
   · cases hw : W st.env st.sto with
     | none => rw [hw] at h; cases h
     | some p =>
      rw [hw] at h; cases h
      obtain ⟨h1, h2⟩ := hch _ _ p hw
      exact ⟨(h1.mono (fun t h => List.mem_append_right _ h)).trans (.put (fun t h => List.mem_append_left _ h) _ _), h2⟩
 · rw [hev, hev, hW env sto t d h1 h3]
   cases W env sto with
   | none => rfl
   | some p => simp only [Option.map_some, Option.bind_some, put_set h2]
theorem foot_move {x : Operand} (ho : o.op = .move x) (h : footOf0 cx all o = some f) : OpFoot cx hc all o f := by
 unfold footOf0 at h
 rw [ho] at h
 simp only at h
 cases hs : stealsTy cx o.type all o.dst
 · rw [hs] at h; cases h
   refine foot_plain (fun env k => k (rd env x).dup) (fun env sto k => ?_) (fun env => .pure _) (fun env t d h => ?_)
   · unfold evOp; simp only [ho, hs]
   · simp only [rd_set h]
 · rw [hs] at h; cases h
   refine foot_left (fun env k => k (rd env x)) x (fun _ h => h) (fun env sto k => ?_) (fun env => .pure _) (fun env t d h => ?_)
   · unfold evOp; simp only [ho, hs]
   · simp only [rd_set h]
theorem foot_assign {x : Operand} (ho : o.op = .assign x) (h : footOf0 cx all o = some f) : OpFoot cx hc all o f := by
 unfold footOf0 at h
 rw [ho] at h
 cases h
 refine foot_left (fun env k => k (rd env x)) x (fun _ h => h) (fun env sto k => ?_) (fun env => .pure _) (fun env t d h => ?_)
 · unfold evOp; simp only [ho] <;> rfl
 · simp only [rd_set h]
theorem out_app {t : Nat} {a b : List Nat} (h : t ∉ a ++ b) : t ∉ a ∧ t ∉ b := by
 simpa [not_or] using h
theorem foot_pick {c x y : Operand} (ho : o.op = .pick c x y) (h : footOf0 cx all o = some f) : OpFoot cx hc all o f := by
 unfold footOf0 at h
 rw [ho] at h
 cases h
 refine foot_plain (fun env k => match rd env c with
  | .bool t => match t with
   | true => k (rd env x).dup
   | false => k (rd env y).dup
  | _ => none) (fun env sto k => ?_) (fun env => ?_) (fun env t d h => ?_)
 · unfold evOp; simp only [ho] <;> rfl
 · generalize rd env c = z
   cases z <;> first
    | exact .none
    | skip
   rename_i b
   cases b <;> exact .pure _
 · obtain ⟨h12, h3⟩ := out_app h
   obtain ⟨h1, h2⟩ := out_app h12
   simp only [rd_set h1, rd_set h2, rd_set h3]
theorem foot_nilCheck {x : Operand} (ho : o.op = .nilCheck x) (h : footOf0 cx all o = some f) : OpFoot cx hc all o f := by
 unfold footOf0 at h
 rw [ho] at h
 cases h
 refine foot_plain (fun env k => match rd env x with
  | .ptr i off => k (.ptr i off)
  | .box cs => k (.box cs)
  | .fn f cs => k (.fn f cs)
  | _ => none) (fun env sto k => ?_) (fun env => ?_) (fun env t d h => ?_)
 · unfold evOp; simp only [ho] <;> rfl
 · generalize rd env x = z
   cases z <;> first
    | exact .none
    | exact .pure _
 · simp only [rd_set h]
theorem foot_binOp {op t x y tr} (ho : o.op = .binOp op t x y tr) (h : footOf0 cx all o = some f) : OpFoot cx hc all o f := by
 unfold footOf0 at h
 rw [ho] at h
 cases h
 refine foot_plain (fun env => binK cx op t (isConstO x || isConstO y) (rd env x) (rd env y)) (fun env sto k => ?_) (fun env => binK_bnd _ _ _ _ _) (fun env t d h => ?_)
 · unfold evOp; simp only [ho] <;> rfl
 · obtain ⟨h1, h2⟩ := out_app h
   simp only [rd_set h1, rd_set h2]
theorem foot_unOp {op t x} (ho : o.op = .unOp op t x) (h : footOf0 cx all o = some f) : OpFoot cx hc all o f := by
 unfold footOf0 at h
 rw [ho] at h
 cases h
 refine foot_plain (fun env => unK op (rd env x)) (fun env sto k => ?_) (fun env => unK_bnd _ _) (fun env t d h => ?_)
 · unfold evOp; simp only [ho] <;> rfl
 · simp only [rd_set h]
theorem optMap_set {env : List D} {t : Nat} {d : D} {x : Option Operand} (h : t ∉ optOf x) : x.map (rd (env.set t d)) = x.map (rd env) := by
 cases x with
 | none => rfl
 | some x => simp only [Option.map_some, rd_set (x := x) h]
theorem foot_slice {ty x lo hi mx} (ho : o.op = .slice ty x lo hi mx) (h : footOf0 cx all o = some f) : OpFoot cx hc all o f := by
 unfold footOf0 at h
 rw [ho] at h
 cases h
 refine foot_plain (fun env k => match tyOk cx ty (rd env x) with
  | true => sliceK (rd env x) (lo.map (rd env)) (hi.map (rd env)) (mx.map (rd env)) k
  | false => none) (fun env sto k => ?_) (fun env => ?_) (fun env t d h => ?_)
 · unfold evOp; simp only [ho] <;> rfl
 · cases tyOk cx ty (rd env x)
   · exact .none
   · exact sliceK_bnd _ _ _ _
 · obtain ⟨h123, h4⟩ := out_app h
   obtain ⟨h12, h3⟩ := out_app h123
   obtain ⟨h1, h2⟩ := out_app h12
   simp only [rd_set h1, optMap_set h2, optMap_set h3, optMap_set h4]
theorem foot_fieldAddr {ty x fi} (ho : o.op = .fieldAddr ty x fi) (h : footOf0 cx all o = some f) : OpFoot cx hc all o f := by
 unfold footOf0 at h
 rw [ho] at h
 cases h
 refine foot_plain (fun env k => match look cx.tab ty with
  | some { d := .struct fs, .. } => match fs[fi]? with
   | some fi => match Nat.beq fi.size 0, rd env x with
    | false, .ptr i off => k (.ptr i (off + fi.off))
    | false, .box cs => match Nat.ble fi.off cs.length with
     | true => k (.box (cs.drop fi.off))
     | false => none
    | _, _ => none
   | none => none
  | _ => none) (fun env sto k => ?_) (fun env => ?_) (fun env t d h => ?_)
 · unfold evOp; simp only [ho] <;> rfl
 · refine .of (Option.bind (match look cx.tab ty with
    | some { d := .struct fs, .. } => fs[fi]?
    | _ => none) fun fi => match Nat.beq fi.size 0, rd env x with
     | false, .ptr i off => some (.ptr i (off + fi.off))
     | false, .box cs => match Nat.ble fi.off cs.length with
      | true => some (.box (cs.drop fi.off))
      | false => none
     | _, _ => none) (fun k => ?_)
   cases look cx.tab ty with
   | none => rfl
   | some e =>
    obtain ⟨ed, _, _, _, _, _⟩ := e
    cases ed <;> first
     | rfl
     | skip
    rename_i fs
    simp only
    cases fs[fi]? with
    | none => rfl
    | some fi =>
     simp only [Option.bind_some]
     cases Nat.beq fi.size 0
     · generalize rd env x = z
       cases z <;> first
        | rfl
        | skip
       rename_i cs
       simp only
       cases Nat.ble fi.off cs.length <;> rfl
     · rfl
 · simp only [rd_set h]
theorem foot_field {ty x fi} (ho : o.op = .field ty x fi) (h : footOf0 cx all o = some f) : OpFoot cx hc all o f := by
 unfold footOf0 at h
 rw [ho] at h
 cases h
 refine foot_plain (fun env k => match look cx.tab ty with
  | some { d := .struct fs, .. } => match fs[fi]?, rd env x with
   | some fi, .agg cs => match Nat.ble (fi.off + fi.size) cs.length with
    | true => k (ofCells fi.agg (((cs.drop fi.off).take fi.size).map D.dup1))
    | false => none
   | _, _ => none
  | _ => none) (fun env sto k => ?_) (fun env => ?_) (fun env t d h => ?_)
 · unfold evOp; simp only [ho] <;> rfl
 · cases look cx.tab ty with
   | none => exact .none
   | some e =>
    obtain ⟨ed, _, _, _, _, _⟩ := e
    cases ed <;> first
     | exact .none
     | skip
    rename_i fs
    simp only
    cases fs[fi]? with
    | none => exact .none
    | some fi =>
     generalize rd env x = z
     cases z <;> first
      | exact .none
      | skip
     rename_i cs
     simp only
     cases Nat.ble (fi.off + fi.size) cs.length
     · exact .none
     · exact .pure _
 · simp only [rd_set h]
end
end Go.Ev
namespace Go.Ev
section
variable {R : Type} {cx : Cx}
variable {hc : FuncId → List D → Sto → (D → Sto → Option R) → Option R} {all : List Oper} {o : Oper} {f : Foot}
theorem bnd_bind {α : Type} (m : Option α) {V : α → (D → Option R) → Option R} (h : ∀ a, Bnd (V a)) : Bnd (R := R) fun k => m.bind fun a => V a k := by
 cases m with
 | none => exact .none
 | some a => exact h a
theorem bnd_idx {n : Int} {V : Nat → (D → Option R) → Option R} (h : ∀ j, Bnd (V j)) : ∀ (m i : Nat), Bnd (R := R) fun k => idxK n i m fun j => V j k
 | 0, _ => .none
 | m + 1, i => by
  unfold idxK
  cases decide (n = (i : Int))
  · exact bnd_idx h m (i + 1)
  · exact h i
theorem foot_indexAddr {ty x ix} (ho : o.op = .indexAddr ty x ix) (h : footOf0 cx all o = some f) : OpFoot cx hc all o f := by
 unfold footOf0 at h
 rw [ho] at h
 cases h
 refine foot_plain (fun env k => match look cx.tab ty, rd env x, rd env ix with
  | some { d := .slice _, .. }, .sl m ty' l, .int _ n => match tyOk cx ty (.sl m ty' l) with
   | true => (nth l n).bind fun e => k (.box (cells ty' e))
   | false => none
  | some { d := .array len e, .. }, .ptr i off, .int _ n => match look cx.tab e with
   | some te => idxK n 0 len fun j => k (.ptr i (off + j * te.size))
   | none => none
  | _, _, _ => none) (fun env sto k => ?_) (fun env => ?_) (fun env t d h => ?_)
 · unfold evOp; simp only [ho] <;> rfl
 · cases look cx.tab ty with
   | none => exact .none
   | some e =>
    obtain ⟨ed, _, _, _, _, _⟩ := e
    generalize rd env x = z
    generalize rd env ix = y
    cases ed <;> first
     | exact .none
     | skip
    · cases z <;> first
       | exact .none
       | skip
      cases y <;> first
       | exact .none
       | skip
      rename_i m ty' l _ n
      simp only
      cases tyOk cx ty (.sl m ty' l)
      · exact .none
      · exact bnd_bind _ fun _ => .pure _
    · rename_i len e
      cases z <;> first
       | exact .none
       | skip
      cases y <;> first
       | exact .none
       | skip
      rename_i n
      simp only
      cases look cx.tab e with
      | none => exact .none
      | some te =>
       simp only
       exact bnd_idx (fun j => .pure _) _ _
 · obtain ⟨h1, h2⟩ := out_app h
   simp only [rd_set h1, rd_set h2]
theorem foot_index {ty x ix} (ho : o.op = .index ty x ix) (h : footOf0 cx all o = some f) : OpFoot cx hc all o f := by
 unfold footOf0 at h
 rw [ho] at h
 cases h
 refine foot_plain (fun env k => match look cx.tab ty, rd env x, rd env ix with
  | some { d := .str, .. }, .str s, .int _ n => (nth s n).bind fun b => k (.int .u8 (b.toNat : Int))
  | some { d := .array len e, .. }, .agg cs, .int _ n => match look cx.tab e with
   | some te => idxK n 0 len fun j => match Nat.ble (j * te.size + te.size) cs.length with
    | true => k (ofCells te.agg (((cs.drop (j * te.size)).take te.size).map D.dup1))
    | false => none
   | none => none
  | _, _, _ => none) (fun env sto k => ?_) (fun env => ?_) (fun env t d h => ?_)
 · unfold evOp; simp only [ho] <;> rfl
 · cases look cx.tab ty with
   | none => exact .none
   | some e =>
    obtain ⟨ed, _, _, _, _, _⟩ := e
    generalize rd env x = z
    generalize rd env ix = y
    cases ed <;> first
     | exact .none
     | skip
    · cases z <;> first
       | exact .none
       | skip
      cases y <;> first
       | exact .none
       | skip
      exact bnd_bind _ fun _ => .pure _
    · rename_i len e
      cases z <;> first
       | exact .none
       | skip
      cases y <;> first
       | exact .none
       | skip
      rename_i cs _ n
      simp only
      cases look cx.tab e with
      | none => exact .none
      | some te =>
       simp only
       refine bnd_idx (fun j => ?_) _ _
       cases Nat.ble (j * te.size + te.size) cs.length
       · exact .none
       · exact .pure _
 · obtain ⟨h1, h2⟩ := out_app h
   simp only [rd_set h1, rd_set h2]
theorem foot_extract {x i} (ho : o.op = .extract x i) (h : footOf0 cx all o = some f) : OpFoot cx hc all o f := by
 unfold footOf0 at h
 rw [ho] at h
 cases h
 let L : List D → List D := fun env => match rd env x with
  | .tup cs => match cs[i]? with
   | some c => match c.leaf with
    | true => left env x
    | false => env
   | none => env
  | _ => env
 refine foot_val (fun env k => match rd env x with
  | .tup cs => match cs[i]? with
   | some c => match c.leaf with
    | true => k c
    | false => k c.dup
   | none => none
  | _ => none) L (fun env sto k => ?_) (fun env => ?_) (fun env t d h => ?_) (fun env => ?_) (fun env t d h _ => ?_)
 · unfold evOp; simp only [ho, L]
   generalize rd env x = z
   cases z <;> first
    | rfl
    | skip
   rename_i cs
   simp only
   cases cs[i]? with
   | none => rfl
   | some c => simp only; cases c.leaf <;> rfl
 · generalize rd env x = z
   cases z <;> first
    | exact .none
    | skip
   rename_i cs
   simp only
   cases cs[i]? with
   | none => exact .none
   | some c => simp only; cases c.leaf <;> exact .pure _
 · simp only [rd_set h]
 · simp only [L]
   split
   · split
     · split
       · exact .left (fun _ h => h) _
       · exact .refl _ _
     · exact .refl _ _
   · exact .refl _ _
 · simp only [L, rd_set h, left_set h]
   generalize rd env x = z
   cases z <;> first
    | rfl
    | skip
   rename_i cs
   simp only
   cases cs[i]? with
   | none => rfl
   | some c => simp only; cases c.leaf <;> rfl
def convOwn (cx : Cx) (src dst : TypeId) (x : D) : Option (Option D) :=
 match look cx.tab src, Nat.beq src dst, x with
 | some { d := .slice e, .. }, true, .sl m .byte l => match look cx.tab e with
  | some { d := .int .u8, .. } => match m, l with
   | .own, c :: l' => some (some (.sl .ro .byte (c :: l')))
   | _, _ => some none
  | _ => some none
 | _, _, _ => none
theorem foot_convert {src dst x} (ho : o.op = .convert src dst x) (h : footOf0 cx all o = some f) : OpFoot cx hc all o f := by
 unfold footOf0 at h
 rw [ho] at h
 cases h
 refine foot_val (fun env k => match convOwn cx src dst (rd env x) with
  | some (some d) => k d
  | some none => none
  | none => convK cx src dst (rd env x) k) (fun env => match convOwn cx src dst (rd env x) with
  | some (some _) => left env x
  | _ => env) (fun env sto k => ?_) (fun env => ?_) (fun env t d h => ?_) (fun env => ?_) (fun env t d h _ => ?_)
 · unfold evOp; simp only [ho]
   unfold convOwn
   cases look cx.tab src with
   | none => rfl
   | some e =>
    obtain ⟨ed, _, _, _, _, _⟩ := e
    cases ed <;> first
     | rfl
     | skip
    rename_i e
    cases Nat.beq src dst
    · rfl
    · generalize rd env x = z
      cases z <;> first
       | rfl
       | skip
      rename_i m ty l
      cases ty <;> first
       | rfl
       | skip
      simp only
      cases look cx.tab e with
      | none => rfl
      | some e2 =>
       obtain ⟨ed2, _, _, _, _, _⟩ := e2
       cases ed2 <;> first
        | rfl
        | skip
       rename_i kk
       cases kk <;> first
        | rfl
        | skip
       cases m <;> first
        | rfl
        | (cases l <;> rfl)
 · skip
   cases convOwn cx src dst (rd env x) with
   | none => exact convK_bnd _ _ _
   | some y => cases y with
    | none => exact .none
    | some d => exact .pure _
 · simp only [rd_set h]
 · simp only
   split
   · exact .left (fun _ h => h) _
   · exact .refl _ _
 · simp only [rd_set h, left_set h]
   split <;> rfl
theorem map_rd_set {env : List D} {t : Nat} {d : D} : ∀ {l : List Operand}, t ∉ tmpsOf l → (l.map fun x => (rd (env.set t d) x).dup) = l.map fun x => (rd env x).dup
 | [], _ => rfl
 | x :: r, h => by
  obtain ⟨h1, h2⟩ := out_cons h
  simp only [List.map_cons, rd_set h1, map_rd_set h2]
def mkFn (cx : Cx) (f : Nat) (fs cs : List D) (k : D → Option R) : Option R := match fs with
 | [] => k (.fn f cs)
 | l => match cs, cx.b0.any (Nat.beq f) with
  | [], true => k (.fn f l)
  | _, _ => none
theorem foot_makeFunc {fo first caps} (ho : o.op = .makeFunc fo first caps) (h : footOf0 cx all o = some f) : OpFoot cx hc all o f := by
 unfold footOf0 at h
 rw [ho] at h
 cases h
 refine foot_plain (fun env k => match fo with
  | .func f => mkFn cx f (first.toList.map fun x => (rd env x).dup) (caps.toList.map fun x => (rd env x).dup) k
  | _ => none) (fun env sto k => ?_) (fun env => ?_) (fun env t d h => ?_)
 · unfold evOp; simp only [ho]
   cases fo with
   | func f =>
    unfold mkFn
    dsimp only
    generalize first.toList = F
    generalize caps.toList = C
    generalize cx.b0.any (Nat.beq f) = B
    cases F <;> cases C <;> cases B <;> rfl
   | _ => (show evOp2 cx o _ _ = none; unfold evOp2; simp only [ho])
 · cases fo with
   | func f =>
    dsimp only
    unfold mkFn
    generalize (first.toList.map fun x => (rd env x).dup) = F
    generalize (caps.toList.map fun x => (rd env x).dup) = C
    generalize cx.b0.any (Nat.beq f) = B
    cases F <;> cases C <;> cases B <;> first
     | exact .pure _
     | exact .none
   | _ => exact .none
 · simp only [map_rd_set (out_app h).1, map_rd_set (out_app h).2]
theorem foot_buildSlice {ty len parts} (ho : o.op = .buildSlice ty len parts) (h : footOf0 cx all o = some f) : OpFoot cx hc all o f := by
 unfold footOf0 at h
 rw [ho] at h
 cases h
 refine foot_plain (fun env k => match look cx.tab ty with
  | some { d := .slice e, .. } => match look cx.tab e with
   | some { size := sz, ty := some ty, zero := z, .. } => match fillL sz env parts.toList (List.replicate len z) with
    | some cs => match decRow ty cs with
     | some l => match Nat.ble (len * sz) 16777216 with
      | true => k (.sl .own ty l)
      | false => none
     | none => none
    | none => none
   | _ => none
  | _ => none) (fun env sto k => ?_) (fun env => ?_) (fun env t d h => ?_)
 · unfold evOp; simp only [ho] <;> rfl
 · cases look cx.tab ty with
   | none => exact .none
   | some e =>
    obtain ⟨ed, _, _, _, _, _⟩ := e
    cases ed <;> first
     | exact .none
     | skip
    rename_i e
    simp only
    cases look cx.tab e with
    | none => exact .none
    | some e2 =>
     obtain ⟨ed2, sz, by2, ag2, ty2, z2⟩ := e2
     cases ty2 with
     | none => exact .none
     | some ty2 =>
      simp only
      cases fillL sz env parts.toList (List.replicate len z2) with
      | none => exact .none
      | some cs =>
       simp only
       cases decRow ty2 cs with
       | none => exact .none
       | some l =>
        simp only
        cases Nat.ble (len * sz) 16777216
        · exact .none
        · exact .pure _
 · simp only [fillL_set (sz := _) parts.toList env _ h]
theorem foot_build {ty parts} (ho : o.op = .build ty parts) (h : footOf0 cx all o = some f) : OpFoot cx hc all o f := by
 unfold footOf0 at h
 rw [ho] at h
 cases h
 let F : List D → Option (List D × List D) := fun env => match look cx.tab ty with
  | some { d := .struct fs, zero := z, .. } => fillS fs env parts.toList z
  | _ => none
 have hF : ∀ env (t : Nat) d, t ∉ tmpsOf (parts.toList.map (·.2)) → F (env.set t d) = (F env).map fun p => (p.1, p.2.set t d) := by
  intro env t d h
  simp only [F]
  split
  · exact fillS_set _ _ _ h
  · rfl
 refine foot_val (fun env k => match F env with
  | some (cs, _) => k (.agg cs)
  | none => none) (fun env => match F env with
  | some (_, env) => env
  | none => env) (fun env sto k => ?_) (fun env => ?_) (fun env t d h => ?_) (fun env => ?_) (fun env t d h _ => ?_)
 · unfold evOp; simp only [ho, F]
   cases look cx.tab ty with
   | none => rfl
   | some e =>
    obtain ⟨ed, _, _, _, _, z⟩ := e
    cases ed <;> first
     | rfl
     | skip
    rename_i fs
    simp only
    cases fillS fs env parts.toList z with
    | none => rfl
    | some p => rfl
 · skip
   cases F env with
   | none => exact .none
   | some p => exact .pure _
 · simp only [hF env t d h]
   cases F env <;> rfl
 · simp only [F]
   cases look cx.tab ty with
   | none => exact .refl _ _
   | some e =>
    obtain ⟨ed, _, _, _, _, z⟩ := e
    cases ed <;> first
     | exact .refl _ _
     | skip
    rename_i fs
    simp only
    cases hp : fillS fs env parts.toList z with
    | none => exact .refl _ _
    | some p => exact fillS_chg _ _ _ _ hp
 · simp only [hF env t d h]
   cases F env <;> rfl
theorem foot_len {args ats} (ho : o.op = .call { callee := .builtin .len, args, argTypes := ats }) (h : footOf0 cx all o = some f) : OpFoot cx hc all o f := by
 unfold footOf0 at h
 rw [ho] at h
 cases h
 refine foot_plain (fun env k => match args.toList, ats.toList with
  | [x], [t] => match look cx.tab t, rd env x with
   | some { d := .str, .. }, .str s => k (.int .i64 (s.length : Int))
   | some { d := .slice _, .. }, .nils => k (.int .i64 0)
   | some { d := .slice _, .. }, .sl _ _ l => k (.int .i64 (l.length : Int))
   | some { d := .array len _, .. }, _ => match Nat.ble len 9223372036854775807 with
    | true => k (.int .i64 (len : Int))
    | false => none
   | _, _ => none
  | _, _ => none) (fun env sto k => ?_) (fun env => ?_) (fun env t d h => ?_)
 · unfold evOp; simp only [ho] <;> rfl
 · split
   · rename_i x t _ _
     cases look cx.tab t with
     | none => exact .none
     | some e =>
      obtain ⟨ed, _, _, _, _, _⟩ := e
      generalize rd env x = z
      cases ed <;> first
       | exact .none
       | skip
      · cases z <;> first
         | exact .none
         | exact .pure _
      · cases z <;> first
         | exact .none
         | exact .pure _
      · rename_i len e
        simp only
        cases Nat.ble len 9223372036854775807
        · exact .none
        · exact .pure _
   · exact .none
 · dsimp only at h ⊢
   split
   · rename_i x t' hx _
     rw [hx] at h
     rw [rd_set (out_cons h).1]
   · rfl
theorem foot_append {args ats} (ho : o.op = .call { callee := .builtin .append, args, argTypes := ats }) (h : footOf0 cx all o = some f) : OpFoot cx hc all o f := by
 unfold footOf0 at h
 rw [ho] at h
 cases h
 refine foot_val (fun env k => match args.toList, ats.toList with
  | [x, y], [t, t2] => match look cx.tab t2 with
   | some { d := .slice _, .. } | some { d := .str, .. } => appendK cx t (rd env x) (rd env y) k
   | _ => none
  | _, _ => none) (fun env => match args.toList with
  | [x, _] => left env x
  | _ => env) (fun env sto k => ?_) (fun env => ?_) (fun env t d h => ?_) (fun env => ?_) (fun env t d h _ => ?_)
 · unfold evOp; simp only [ho]
   generalize args.toList = al
   generalize ats.toList = tl
   rcases al with _ | ⟨x, _ | ⟨y, _ | _⟩⟩ <;> rcases tl with _ | ⟨t, _ | ⟨t2, _ | _⟩⟩ <;> rfl
 · split
   · split
     · exact appendK_bnd _ _ _
     · exact appendK_bnd _ _ _
     · exact .none
   · exact .none
 · dsimp only at h ⊢
   split
   · rename_i x y t' t2 hx _
     rw [hx] at h
     obtain ⟨h1, h2⟩ := out_cons h
     rw [rd_set h1, rd_set (out_cons h2).1]
   · rfl
 · dsimp only
   split
   · rename_i x y hx
     exact .left (fun t h => by rw [hx]; simp [tmpsOf, h]) _
   · exact .refl _ _
 · dsimp only at h ⊢
   split
   · rename_i x y hx
     rw [hx] at h
     exact left_set (out_cons h).1
   · rfl
end
end Go.Ev
