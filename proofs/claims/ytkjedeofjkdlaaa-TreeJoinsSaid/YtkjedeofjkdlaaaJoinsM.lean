/- Lists that are lent, in a row of one's own. Conditions: none. -/
import Derived.Test.YtkjedeofjkdlaaaKeepC
namespace Go.Proofs.Ytkjedeofjkdlaaa
open Go.RowKit Go.Eg

/-- A slice that begins at the beginning of a block: which block, how long, what room. -/
def tyCut : Ty (Nat × Nat × Nat) := .flat 1 (fun x => [.slice (some ⟨x.1, 0, none⟩) x.2.1 x.2.2]) (fun _ => rfl) (by simp [Value.oneCell'])
/-- The lists are lent; those from k on are as they were. -/
structure LA (base top : Nat) (w : World) (ps : List (List Nd)) (k : Nat) (v : Value) (vs : List (Nat × Nat × Nat)) : Prop where
  own : Own tyCut 22 base No w vs v
  len : vs.length = ps.length
  el : ∀ (i : Nat) (g n c : Nat) (x : List Nd), vs[i]? = some (g, n, c) → ps[i]? = some x → n = x.length ∧ v.ownBlock ≠ some g ∧ g < top ∧ base ≤ g ∧ (k ≤ i → Lent base w x g c)
  dis : ∀ (i j : Nat) (g n c g' n' c' : Nat), i ≠ j → vs[i]? = some (g, n, c) → vs[j]? = some (g', n', c') → g ≠ g'
theorem LA.start (base top : Nat) (w : World) : LA base top w [] 0 (.slice none 0 0) [] := ⟨Own.nil _ _ _ _ _, rfl, fun i g n c x h => by simp at h, fun i j g n c g' n' c' _ h => by simp at h⟩
theorem LA.get {base top k : Nat} {w : World} {ps : List (List Nd)} {v : Value} {vs : List (Nat × Nat × Nat)} (h : LA base top w ps k v vs) {i : Nat} {x : List Nd} (hx : ps[i]? = some x) : ∃ g c, vs[i]? = some (g, x.length, c) ∧ v.ownBlock ≠ some g ∧ g < top ∧ base ≤ g ∧ (k ≤ i → Lent base w x g c) := by
  have hi : i < vs.length := by rw [h.len]; exact (List.getElem?_eq_some_iff.1 hx).1
  obtain ⟨⟨g, n, c⟩, hv'⟩ : ∃ q, vs[i]? = some q := ⟨_, List.getElem?_eq_getElem hi⟩
  obtain ⟨rfl, h2⟩ := h.el i g n c x hv' hx
  exact ⟨g, c, hv', h2⟩
theorem LA.rd {base top : Nat} {w : World} {ps : List (List Nd)} {v : Value} {vs : List (Nat × Nat × Nat)} (h : LA base top w ps 0 v vs) : Rd (Ty.slice tyNd) w ps v := by
  obtain ⟨A, c, e, hl, hm, hr⟩ := h.own.rd
  rw [h.len] at e hl
  refine ⟨A, c, e, hl, hm, fun hne => ?_⟩
  have hne' : vs ≠ [] := by rintro rfl; have := h.len; simp at this; exact hne (List.eq_nil_of_length_eq_zero this.symm)
  obtain ⟨b, off, e', hb, hlt, hrow⟩ := hr hne'
  refine ⟨b, off, e', hb, hlt, fun i x hx => ?_⟩
  obtain ⟨g, c, hv, _, _, _, hL⟩ := h.get hx
  obtain ⟨cs, hcs, hat⟩ := hrow i _ hv
  have hcs' : cs = [.slice (some ⟨g, 0, none⟩) x.length c] := hcs
  exact ⟨cs, ⟨_, hcs', (hL (Nat.zero_le _)).rd⟩, hat⟩
/-- The cell of the i-th one. -/
theorem LA.cell {base top k : Nat} {w : World} {ps : List (List Nd)} {A : Option Addr} {n c : Nat} {vs : List (Nat × Nat × Nat)} (h : LA base top w ps k (.slice A n c) vs) {i : Nat} {x : List Nd} (hx : ps[i]? = some x) :
    ∃ gv g c', A = some ⟨gv, 0, none⟩ ∧ gv < w.heap.size ∧ w.cell? ⟨gv, i, none⟩ = some (.slice (some ⟨g, 0, none⟩) x.length c') ∧ gv ≠ g ∧ g < top ∧ base ≤ g ∧ vs[i]? = some (g, x.length, c') ∧ (k ≤ i → Lent base w x g c') := by
  obtain ⟨g, c', hv, hne, ht, hb, hL⟩ := h.get hx
  obtain ⟨b, off, cs, e, hlt, hcs, hat⟩ := h.own.rd.at hv
  have hcs' : cs = [.slice (some ⟨g, 0, none⟩) x.length c'] := hcs
  have hc := hat 0 _ (by rw [hcs']; rfl)
  rcases h.own.zero with ⟨h0, _⟩ | ⟨gv, h0, _⟩
  · rw [e] at h0; cases h0
  · rw [h0] at e
    have e2 := Option.some.inj e
    have eb : gv = b := congrArg Addr.block e2
    have eo : 0 = off := congrArg Addr.off e2
    subst eb eo
    have hc' : w.cell? ⟨gv, i, none⟩ = some (.slice (some ⟨g, 0, none⟩) x.length c') := by
      have e1 : 0 + i * tyCut.sz + 0 = i := by show 0 + i * 1 + 0 = i; omega
      rw [e1] at hc
      exact hc
    refine ⟨gv, g, c', h0, hlt, hc', fun e => hne ?_, ht, hb, hv, hL⟩
    rw [h0, ← e]; rfl
theorem LA.ext {base top k : Nat} {w w' : World} {ps : List (List Nd)} {v : Value} {vs : List (Nat × Nat × Nat)} (h : LA base top w ps k v vs) (he : Ext w w') : LA base top w' ps k v vs :=
  ⟨h.own.ext he, h.len, fun i g n c x hv hx => let ⟨a, b, c, d, e⟩ := h.el i g n c x hv hx; ⟨a, b, c, d, fun hk => (e hk).ext he⟩, h.dis⟩
theorem LA.up {base top top' k : Nat} {w : World} {ps : List (List Nd)} {v : Value} {vs : List (Nat × Nat × Nat)} (h : LA base top w ps k v vs) (ht : top ≤ top') : LA base top' w ps k v vs :=
  ⟨h.own, h.len, fun i g n c x hv hx => let ⟨a, b, c, d, e⟩ := h.el i g n c x hv hx; ⟨a, b, by omega, d, e⟩, h.dis⟩
/-- One more is lent. -/
theorem LA.snoc {base top : Nat} {w w1 w2 : World} {ps : List (List Nd)} {v v' : Value} {vs : List (Nat × Nat × Nat)} (h : LA base top w ps 0 v vs) (htop : top ≤ w.heap.size) {x : List Nd} {g c : Nat} (he : Ext w w1) (hL : Lent base w1 x g c) (hgw : w.heap.size ≤ g)
    (ho : Own tyCut 22 base No w2 (vs ++ [(g, x.length, c)]) v') (hg : w1.grownBy w2 v.ownBlock) (hat : v'.ownBlock = v.ownBlock ∨ v'.ownBlock = some w1.heap.size) : LA base w2.heap.size w2 (ps ++ [x]) 0 v' (vs ++ [(g, x.length, c)]) := by
  have hvb : ∀ k, v.ownBlock = some k → k < w.heap.size := fun k hk => (h.own.block k hk).2
  have hgl : g < w1.heap.size := (hL.1.block g rfl).2
  have hwl := he.le
  have old : ∀ {x g c}, Lent base w1 x g c → v.ownBlock ≠ some g → Lent base w2 x g c := fun hL hne => ⟨hL.1.other hg (fun k hk e => by cases hk; exact hne e) (fun _ h => h.elim), hL.2⟩
  have own' : ∀ g, g < w1.heap.size → v.ownBlock ≠ some g → v'.ownBlock ≠ some g := fun g h1 h2 => by
    rcases hat with hat | hat <;> rw [hat]
    · exact h2
    · exact fun e => by have := Option.some.inj e; omega
  refine ⟨ho, by simp [h.len], fun i g' n c' y hv hy => ?_, fun i j g1 n1 c1 g2 n2 c2 hij h1 h2 => ?_⟩
  · rw [List.getElem?_append] at hv hy
    rw [h.len] at hv
    split at hv
    · rename_i hi
      rw [if_pos hi] at hy
      obtain ⟨a, b, ht, d, e⟩ := h.el i g' n c' y hv hy
      have := hg.size
      exact ⟨a, own' g' (by omega) b, by omega, d, fun hk => old ((e hk).ext he) b⟩
    · rename_i hi
      rw [if_neg hi] at hy
      have hi0 : i - ps.length = 0 := by have := (List.getElem?_eq_some_iff.1 hy).1; simp at this; omega
      rw [hi0] at hv hy
      cases hv
      cases hy
      have hne : v.ownBlock ≠ some g := fun e => by have := hvb g e; omega
      have := hg.size
      exact ⟨rfl, own' g hgl hne, by omega, hL.lo, fun _ => old hL hne⟩
  · have low : ∀ {i g n c}, i < vs.length → (vs ++ [(g, x.length, c)])[i]? = some (g, n, c) → True := fun _ _ => trivial
    have part : ∀ {i g' n' c'}, (vs ++ [(g, x.length, c)])[i]? = some (g', n', c') → (i < vs.length ∧ vs[i]? = some (g', n', c') ∧ g' < w.heap.size) ∨ (i = vs.length ∧ g' = g) := fun {i g' n' c'} hv => by
      by_cases hi : i < vs.length
      · rw [List.getElem?_append_left hi] at hv
        obtain ⟨y, hy⟩ : ∃ y, ps[i]? = some y := ⟨_, List.getElem?_eq_getElem (by rw [← h.len]; exact hi)⟩
        obtain ⟨_, _, ht, _⟩ := h.el i g' n' c' y hv hy
        exact .inl ⟨hi, hv, by omega⟩
      · have hl := (List.getElem?_eq_some_iff.1 hv).1
        rw [List.length_append, List.length_singleton] at hl
        have hi' : i = vs.length := by omega
        subst hi'
        rw [List.getElem?_append_right (Nat.le_refl _), Nat.sub_self] at hv
        cases hv
        exact .inr ⟨rfl, rfl⟩
    rcases part h1 with ⟨_, a1, b1⟩ | ⟨a1, rfl⟩ <;> rcases part h2 with ⟨_, a2, b2⟩ | ⟨a2, rfl⟩
    · exact h.dis i j g1 n1 c1 g2 n2 c2 hij a1 a2
    · omega
    · omega
    · omega
/-- The i-th is spoiled. -/
theorem LA.spoil {base top i : Nat} {w w' : World} {ps : List (List Nd)} {v : Value} {vs : List (Nat × Nat × Nat)} (h : LA base top w ps i v vs) {g n c : Nat} {x : List Nd} (hv : vs[i]? = some (g, n, c)) (hx : ps[i]? = some x) (hg : w.grownBy w' (some g)) : LA base top w' ps (i + 1) v vs := by
  obtain ⟨_, hne, _⟩ := h.el i g n c x hv hx
  refine ⟨h.own.other hg (fun k hk e => by have := Option.some.inj e; subst this; exact hne hk) (fun _ h => h.elim), h.len, fun j g' n' c' y hv' hy => ?_, h.dis⟩
  obtain ⟨a, b, ht, d, e⟩ := h.el j g' n' c' y hv' hy
  refine ⟨a, b, ht, d, fun hk => ?_⟩
  have hL := e (by omega)
  have hgg := h.dis i j g n c g' n' c' (by omega) hv hv'
  exact ⟨hL.1.other hg (fun k hk e => by cases hk; exact hgg (Option.some.inj e)) (fun _ h => h.elim), hL.2⟩
theorem Lent.rebase {base base' : Nat} {w : World} {t : List Nd} {g c : Nat} (h : Lent base w t g c) (hb : base' ≤ base) : Lent base' w t g c :=
  ⟨h.1.rebase (fun k hk => Nat.le_trans hb (h.1.lo k hk)), h.2⟩
theorem keepCell {w w' : World} {row : Option Nat} (hg : w.grownBy w' row) {b o : Nat} {u : Value} (h : w.cell? ⟨b, o, none⟩ = some u) (hr : row ≠ some b) : w'.cell? ⟨b, o, none⟩ = some u :=
  (World.cell?_of_block (w := w) (a := ⟨b, o, none⟩) (hg.block b (World.block_lt_of_cell? w _ h) (fun e => hr e.symm))).trans h
theorem elCut : Elem Try.prog 26 22 tyCut.sz 24 := elNds
theorem joinL_len (n : Nd) (ps : List (List Nd)) : (joinL n ps).length ≤ 100000 := by
  unfold joinL
  split
  · rename_i h
    unfold joinE at h
    split at h
    · simp at h
    · split at h
      · simp at h
      · split at h
        · rename_i h0; exact absurd h h0
        · split at h
          · simp at h
          · rw [List.length_append, List.length_singleton]; omega
  · simp
end Go.Proofs.Ytkjedeofjkdlaaa
