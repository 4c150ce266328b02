/- Rows that are grown in turn, and what stays. Conditions: none; plain theorems over any program. -/
import Derived.Test.YtaijjnndnoicpaaEgApp
namespace Go.Eg
open Go.RowKit

section
variable {P : Program} {ops : Array Oper} {rest : List Oper} {a : Act} {Q : Exit → Act → World → Prop} {α : Type} {t : Ty α}
/-- append(gv, nd): a row that grows. -/
theorem wp_append_grow {w0 W : World} {dst : Option Tmp} {s x : Operand} {T ty : TypeId} {pos : String} {after : Array Edge} (e base bytes : Nat) (he : Elem P T e t.sz bytes) (u gv : Value) (y z : List α) (G : Grow t e base w0 u y z W gv) (hs : a.eval s = gv)
    (nd : α) (ad : Addr) (c : Nat) (hx : a.eval x = .slice (some ad) 1 c) (cs : List Value) (hrel : ∀ B w, t.rel B w nd cs) (hcells : ∀ j v, cs[j]? = some v → W.cell? (ad.add j) = some v)
    (hlen : ((y ++ z).length + 1) * bytes ≤ 140737488355328) (h0 : 0 < bytes) (hbase : base ≤ W.heap.size)
    (h : ∀ v' w', Grow t e base w0 u y (z ++ [nd]) w' v' → wpList P ops Q rest (a.put dst v') w') :
    wpList P ops Q (⟨dst, .call { callee := .builtin .append, args := #[s, x], argTypes := #[T, T] }, ty, pos, after, none⟩ :: rest) a W := by
  refine wpList_plain rfl fun K hK => ?_
  obtain ⟨i, z0, hu, hi, hz, hsz, hby, hzs, hsz0⟩ := id he
  obtain ⟨cells, ho, hels⟩ := G.own
  have hlcs : cs.length = t.sz := t.len (hrel No W)
  have hm : (y ++ z).length + 1 ≤ maxLen := by
    have := Nat.le_trans (Nat.le_mul_of_pos_right _ h0) hlen
    simp only [maxLen]; omega
  obtain ⟨v', w', hr, ho', hg, _, hat⟩ := run_append_own_at (P := P) W base T ty e i z0 t.sz bytes hu hi hz hsz hby hzs hsz0 gv (y ++ z).length cells ho ad 1 c cs (by omega) hcells (t.one (hrel No W)) hm hlen hbase
  have hap := append_apart he ho (by decide) (by omega) hcells (t.one (hrel No W)) hm hlen hr
  unfold Oper.wp execOp
  simp only [resolve, invoke, builtin, Sem.run_bind, Sem.run_pure, Result.andThen_ok, List.map_toArray, List.map_cons, List.map_nil, hs, hx, hr]
  refine hK _ _ (h v' w' (G.step ⟨cells ++ cs, ?_, fun k q hq => ?_⟩ hg hap))
  · rw [show (y ++ (z ++ [nd])).length = (y ++ z).length + 1 by simp; omega]
    exact ho'
  · rw [← List.append_assoc, List.getElem?_append] at hq
    split at hq
    · obtain ⟨cs', hr', hc'⟩ := hels k q hq
      refine ⟨cs', t.mono (fun b hb => hb.1.elim) (t.keep (fun b hb => hb.1.elim) hr'), fun j v hv => ?_⟩
      have := hc' j v hv
      rw [List.getElem?_append_left (List.getElem?_eq_some_iff.1 this).1]
      exact this
    · rename_i hk
      have hk0 : k - (y ++ z).length = 0 := by have := (List.getElem?_eq_some_iff.1 hq).1; simp only [List.length_singleton] at this; omega
      rw [hk0] at hq
      cases hq
      have hke : k = (y ++ z).length := by omega
      refine ⟨cs, hrel _ _, fun j v hv => ?_⟩
      rw [List.getElem?_append_right (by rw [ho.1, hke]; omega), ho.1, hke, show (y ++ z).length * t.sz + j - (y ++ z).length * t.sz = j by omega]
      exact hv
end

/-- Blocks that neither the list nor a row yet to come lies in. -/
def Free (v : Value) (vs : List Value) (i : Nat) (b : Nat) : Prop := v.ownBlock ≠ some b ∧ ∀ j u, i ≤ j → vs[j]? = some u → u.ownBlock ≠ some b
theorem Free.succ {v : Value} {vs : List Value} {i b : Nat} (h : Free v vs i b) : Free v vs (i + 1) b := ⟨h.1, fun j u hj => h.2 j u (by omega)⟩
/-- The lists before i are grown, the others are as they were. -/
structure AP {α : Type} (t : Ty α) (e1 e base : Nat) (yss : List (List α)) (Z : Nat → List α) (v : Value) (vs : List Value) (i : Nat) (w : World) (gv : Value) (Gs : List (List α)) : Prop where
  row : w.ownsRow base e1 1 v yss.length vs
  dis : ∀ (i j : Nat) (u u' : Value), i ≠ j → vs[i]? = some u → vs[j]? = some u' → ∀ k, u.ownBlock = some k → u'.ownBlock ≠ some k
  nev : ∀ (j : Nat) (u : Value), vs[j]? = some u → ∀ k, u.ownBlock = some k → v.ownBlock ≠ some k
  pend : ∀ (j : Nat) (y : List α) (u : Value), i ≤ j → yss[j]? = some y → vs[j]? = some u → Own t e base No w y u
  done : ∀ (j : Nat) (y : List α) (u : Value), j < i → yss[j]? = some y → vs[j]? = some u → SlP t (fun b => Free v vs i b ∧ gv.ownBlock ≠ some b) w y u
  len : Gs.length = i
  grown : ∀ (j : Nat) (y : List α), j < i → yss[j]? = some y → Gs[j]? = some (y ++ Z j)
  gr : Own (Ty.slice t) e1 base (Free v vs i) w Gs gv
  gd : ∀ k, gv.ownBlock = some k → Free v vs i k
variable {α : Type} {t : Ty α} {e1 e base : Nat} {yss : List (List α)} {Z : Nat → List α} {v : Value} {vs : List Value} {i : Nat} {w w1 : World} {gv : Value} {Gs : List (List α)}
theorem AP.start (h : Own2 t e1 e base w yss v) : ∃ vs, AP t e1 e base yss Z v vs 0 w (.slice none 0 0) [] := by
  obtain ⟨vs, hrow, hel, hd⟩ := h
  refine ⟨vs, hrow, hd, fun j u hu k hk => ?_, fun j y u _ hy hu => ?_, fun j y u hj => absurd hj (by omega), rfl, fun j y hj => absurd hj (by omega), Own.nil _ _ _ _ _, by simp [Value.ownBlock]⟩
  · have hj : j < yss.length := by have := (List.getElem?_eq_some_iff.1 hu).1; rw [hrow.1] at this; omega
    obtain ⟨u', hu', _, hne⟩ := hel j _ (List.getElem?_eq_getElem hj)
    rw [hu] at hu'
    cases hu'
    exact hne k hk
  · obtain ⟨u', hu', ho, _⟩ := hel j y hy
    rw [hu] at hu'
    cases hu'
    exact ho
/-- The i-th list: where it is told, and that it is one's own. -/
theorem AP.at (h : AP t e1 e base yss Z v vs i w gv Gs) {y : List α} (hy : yss[i]? = some y) : ∃ g c u, v = .slice (some ⟨g, 0, none⟩) yss.length c ∧ g < w.heap.size ∧ w.cell? ⟨g, i, none⟩ = some u ∧ vs[i]? = some u ∧ Own t e base No w y u ∧ v.ownBlock = some g := by
  have hil := (List.getElem?_eq_some_iff.1 hy).1
  have hvl : i < vs.length := by rw [h.row.1]; omega
  rcases h.row.2 with ⟨rfl, h0⟩ | ⟨g, cap, cur, hv, hb, hh, h1, h2, h3, h4⟩
  · omega
  · have hadd : (⟨g, 0, none⟩ : Addr).add i = ⟨g, i, none⟩ := by
      unfold Addr.add
      split
      · rename_i h; rw [h]
      · simp
    have hu : vs[i]? = some vs[i] := List.getElem?_eq_getElem hvl
    have hc := h.row.cells (g := g) (by rw [hv]; rfl) i _ hu
    rw [hadd] at hc
    exact ⟨g, cap, vs[i], hv, (h.row.lt g (by rw [hv]; rfl)).2, hc, hu, h.pend i y _ (Nat.le_refl _) hy hu, by rw [hv]; rfl⟩
/-- After the i-th list has grown: the list of those that have grown is still one's own. -/
theorem AP.ready (h : AP t e1 e base yss Z v vs i w gv Gs) {y z : List α} {u G : Value} {w' : World} (hu : vs[i]? = some u) (g : Grow t e base w u y z w' G) : Own (Ty.slice t) e1 base (Free v vs (i + 1)) w' Gs gv :=
  (h.gr.other g.grown (fun k hk he => (h.gd k hk).2 i u (Nat.le_refl _) hu he) (fun b hb _ he => hb.2 i u (Nat.le_refl _) hu he)).mono (fun _ hb => hb.succ)
/-- Where the grown row lies. -/
theorem AP.lies (h : AP t e1 e base yss Z v vs i w gv Gs) {y z : List α} {u G : Value} {w' : World} (hu : vs[i]? = some u) (hy : yss[i]? = some y) (g : Grow t e base w u y z w' G) {b : Nat} (hb : G.ownBlock = some b ∨ w.heap.size ≤ b) : Free v vs (i + 1) b ∧ gv.ownBlock ≠ some b := by
  have new : w.heap.size ≤ b → Free v vs (i + 1) b ∧ gv.ownBlock ≠ some b := fun hge => by
    refine ⟨⟨fun hv => ?_, fun j u' hj hu' hk => ?_⟩, fun hk => ?_⟩
    · have := (h.row.lt b hv).2; omega
    · have hjl : j < yss.length := by have := (List.getElem?_eq_some_iff.1 hu').1; rw [h.row.1] at this; omega
      have := ((h.pend j _ u' (by omega) (List.getElem?_eq_getElem hjl) hu').block b hk).2
      omega
    · have := (h.gr.block b hk).2; omega
  rcases hb with hb | hb
  · rcases g.lies with hl | ⟨b', hl, hb'⟩
    · rw [hl] at hb
      exact ⟨⟨h.nev i u hu b hb, fun j u' hj hu' => h.dis i j u u' (by omega) hu hu' b hb⟩, fun hk => (h.gd b hk).2 i u (Nat.le_refl _) hu hb⟩
    · rw [hl] at hb
      cases hb
      exact new hb'
  · exact new hb
theorem AP.step (h : AP t e1 e base yss Z v vs i w gv Gs) {y : List α} {u G : Value} {w' w1 w2 : World} {gv' : Value} (hu : vs[i]? = some u) (hy : yss[i]? = some y) (g : Grow t e base w u y (Z i) w' G) (he : Ext w' w1)
    (ho : Own (Ty.slice t) e1 base (Free v vs (i + 1)) w2 (Gs ++ [y ++ Z i]) gv') (hg : w1.grownBy w2 gv.ownBlock) (hat : gv'.ownBlock = gv.ownBlock ∨ gv'.ownBlock = some w1.heap.size) : AP t e1 e base yss Z v vs (i + 1) w2 gv' (Gs ++ [y ++ Z i]) := by
  have g1 := g.ext he
  have hsz : w.heap.size ≤ w1.heap.size := g1.grown.size
  have hgvu : ∀ k, gv.ownBlock = some k → u.ownBlock ≠ some k := fun k hk => (h.gd k hk).2 i u (Nat.le_refl _) hu
  have up : ∀ {q : List α} {x : Value} {F : Nat → Prop}, SlP t F w1 q x → (∀ b, F b → Free v vs (i + 1) b ∧ gv.ownBlock ≠ some b) → SlP t (fun b => Free v vs (i + 1) b ∧ gv'.ownBlock ≠ some b) w2 q x := fun hs hF => by
    have hl := hs.low
    refine (hl.other hg (fun b hb _ => fun e => (hF b hb.1).2 e)).mono (fun b hb => ⟨(hF b hb.1).1, ?_⟩)
    rcases hat with hat | hat <;> rw [hat]
    · exact (hF b hb.1).2
    · exact fun e => by have := Option.some.inj e; omega
  refine ⟨?_, h.dis, h.nev, fun j y' u' hj hy' hu' => ?_, fun j y' u' hj hy' hu' => ?_, by rw [List.length_append, h.len]; rfl, fun j y' hj hy' => ?_, ho, fun k hk => ?_⟩
  · refine (h.row.kept g1.grown ?_).kept hg ?_
    · cases hv : v.ownBlock with
      | none => exact .inl rfl
      | some k => exact .inr fun e => h.nev i u hu k e.symm hv
    · cases hv : v.ownBlock with
      | none => exact .inl rfl
      | some k => exact .inr fun e => (h.gd k e.symm).1 hv
  · exact ((h.pend j y' u' (by omega) hy' hu').other g1.grown (fun k hk he => h.dis i j u u' (by omega) hu hu' k he hk) (fun _ h => h.elim)).other hg (fun k hk he => (h.gd k he).2 j u' (by omega) hu' hk) (fun _ h => h.elim)
  · by_cases hji : j < i
    · refine up ((h.done j y' u' hji hy' hu').other g1.grown (fun b hb _ he => hb.1.2 i u (Nat.le_refl _) hu he)) (fun b hb => ⟨hb.1.succ, hb.2⟩)
    · have : j = i := by omega
      subst this
      rw [hy] at hy'
      rw [hu] at hu'
      cases hy'
      cases hu'
      exact up g1.old (fun b hb => ⟨⟨h.nev j u hu b hb, fun j' u' hj' hu' => h.dis j j' u u' (by omega) hu hu' b hb⟩, fun hk => hgvu b hk hb⟩)
  · by_cases hji : j < i
    · rw [List.getElem?_append_left (by rw [h.len]; exact hji)]
      exact h.grown j y' hji hy'
    · have : j = i := by omega
      subst this
      rw [hy] at hy'
      cases hy'
      rw [List.getElem?_append_right (by rw [h.len]; omega), h.len, Nat.sub_self]
      rfl
  · rcases hat with hat | hat
    · rw [hat] at hk
      exact (h.gd k hk).succ
    · rw [hat] at hk
      cases hk
      exact (h.lies hu hy g (.inr hsz)).1
end Go.Eg
