/- append, and what it leaves alone. Conditions: none; plain theorems over any program. -/
import Derived.Test.YtaijjnndnoicpaaEgMore
namespace Go.Eg
open Go.RowKit

/-- Where append moved the row, the old one stays as it was. -/
theorem append_apart {P : Program} {w : World} {T ty e sz bytes base : Nat} (he : Elem P T e sz bytes) {v : Value} {n : Nat} {cells : List Value} (ho : w.ownsRow base e sz v n cells) {ad : Addr} {m c : Nat} {news : List Value} (hm : 0 < m)
    (h1 : news.length = m * sz) (h2 : ∀ j u, news[j]? = some u → w.cell? (ad.add j) = some u) (h3 : ∀ u ∈ news, u.oneCell' = true) (hmax : n + m ≤ maxLen) (hlen : (n + m) * bytes ≤ 140737488355328)
    {v' : Value} {w' : World} (hr : (Builtin.append_ #[T, T] ty #[v, .slice (some ad) m c]).run P w = .ok v' w') : v'.ownBlock = v.ownBlock ∨ (v'.ownBlock = some w.heap.size ∧ w.grownBy w' none) := by
  obtain ⟨i, z, hu, hi, hz, hsz, hby, hzs, hsz0⟩ := he
  subst hsz hby
  have old : ∀ o : Obj, w.grownBy (w.drew.alloc o) none := fun o => ⟨rfl, rfl, rfl, by simp, fun k hk _ => ((Ext.refl w.drew).alloc o).block k hk⟩
  unfold maxLen at hmax
  rcases ho.2 with ⟨rfl, rfl⟩ | ⟨g, cap, cur, rfl, hb, hg, hnc, hcm, hcs, htake⟩
  · have hr2 := run_append_nil (P := P) w T ty e i z hu hi hz ad m c news h1 h2 hm (by omega) (by rw [Nat.zero_add] at hlen; omega)
    rw [hr] at hr2
    cases hr2
    exact .inr ⟨rfl, old _⟩
  · by_cases hroom : n + m ≤ cap
    · have hfit : n * i.size + news.length ≤ cur.size := by rw [h1, hcs, ← Nat.add_mul]; exact Nat.mul_le_mul_right _ hroom
      have hr2 := run_append_room (P := P) w T ty e i hu hi g n cap cur hg ad m c news h1 h2 h3 hroom hfit
      rw [hr] at hr2
      cases hr2
      exact .inl rfl
    · have hr2 := run_append_grow (P := P) w T ty e i z hu hi hz ⟨g, 0, none⟩ n cap cells ho.1 (ho.cells (g := g) rfl) ad m c news h1 h2 (by omega) (by omega) (growslice_fits (by omega) hlen)
      rw [hr] at hr2
      cases hr2
      exact .inr ⟨rfl, old _⟩

/-- An element's own row is changed. -/
theorem Own2.upd {α : Type} {t : Ty α} {e1 e base : Nat} {w w' : World} {xss : List (List α)} {g n c i : Nat} {u : Value} {x x' : List α} (h : Own2 t e1 e base w xss (.slice (some ⟨g, 0, none⟩) n c)) (hi : xss[i]? = some x)
    (hu : w.cell? ⟨g, i, none⟩ = some u) (hg : w.grownBy w' u.ownBlock) (ho : Own t e base No w' x' u) : Own2 t e1 e base w' (xss.set i x') (.slice (some ⟨g, 0, none⟩) n c) := by
  obtain ⟨vs, hrow, hel, hd⟩ := h
  obtain ⟨u0, hu0, hou0, hne0⟩ := hel i x hi
  have hadd : (⟨g, 0, none⟩ : Addr).add i = ⟨g, i, none⟩ := by
    unfold Addr.add
    split
    · rename_i h; rw [h]
    · simp
  have hc := hrow.cells (g := g) rfl i u0 hu0
  rw [hadd, hu] at hc
  obtain rfl := Option.some.inj hc
  have hil := (List.getElem?_eq_some_iff.1 hi).1
  refine ⟨vs, ?_, fun j y hy => ?_, hd⟩
  · rw [List.length_set]
    refine hrow.kept hg (.inr fun e => ?_)
    exact hne0 g e.symm rfl
  · rw [List.getElem?_set] at hy
    split at hy
    · rename_i hij
      subst hij
      try rw [if_pos hil] at hy
      cases hy
      exact ⟨u, hu0, ho, hne0⟩
    · rename_i hij
      obtain ⟨uj, huj, houj, hnej⟩ := hel j y hy
      exact ⟨uj, huj, houj.other hg (fun k hk he => hd i j u uj hij hu0 huj k he hk) (fun _ h => h.elim), hnej⟩

theorem Own.head {α : Type} {t : Ty α} {e base : Nat} {B : Nat → Prop} {w : World} {xs : List α} {v : Value} (h : Own t e base B w xs v) : ∃ A n c, v = .slice A n c ∧ (A = none ∨ ∃ g, A = some ⟨g, 0, none⟩) := by
  obtain ⟨A, c, rfl, _, _⟩ := h.shape
  refine ⟨A, _, c, rfl, ?_⟩
  rcases h.zero with ⟨rfl, _⟩ | ⟨g, rfl, _⟩
  · exact .inl rfl
  · exact .inr ⟨g, rfl⟩
theorem grownBy_later {a b c : World} {row row' : Option Nat} (h : a.grownBy b row) (k : b.grownBy c row') (hr : ∀ x, row' = some x → a.heap.size ≤ x) : a.grownBy c row :=
  ⟨k.os.trans h.os, k.tape.trans h.tape, k.output.trans h.output, Nat.le_trans h.size k.size, fun x hx hne => (k.block x (Nat.lt_of_lt_of_le hx h.size) (fun e => by have := hr x e.symm; omega)).trans (h.block x hx hne)⟩
/-- A row u that grows on (gv), while u itself is read as before; w0: the world when that began. -/
structure Grow {α : Type} (t : Ty α) (e base : Nat) (w0 : World) (u : Value) (y z : List α) (w : World) (gv : Value) : Prop where
  own : Own t e base No w (y ++ z) gv
  old : SlP t (fun b => u.ownBlock = some b) w y u
  lt0 : ∀ b, u.ownBlock = some b → b < w0.heap.size
  grown : w0.grownBy w u.ownBlock
  head : ∃ A n c, u = .slice A n c ∧ (A = none ∨ ∃ g, A = some ⟨g, 0, none⟩)
  lies : gv.ownBlock = u.ownBlock ∨ ∃ b, gv.ownBlock = some b ∧ w0.heap.size ≤ b
theorem Grow.start {α : Type} {t : Ty α} {e base : Nat} {w0 : World} {u : Value} {y : List α} (h : Own t e base No w0 y u) : Grow t e base w0 u y [] w0 u :=
  ⟨by rw [List.append_nil]; exact h, h.sl.mono (fun b hb => hb.elim False.elim id), fun b hb => (h.block b hb).2, ⟨rfl, rfl, rfl, Nat.le_refl _, fun _ _ _ => rfl⟩, Own.head h, .inl rfl⟩
theorem Grow.ext {α : Type} {t : Ty α} {e base : Nat} {w0 w w' : World} {u gv : Value} {y z : List α} (h : Grow t e base w0 u y z w gv) (he : Ext w w') : Grow t e base w0 u y z w' gv :=
  ⟨h.own.ext he, h.old.extB he, h.lt0, h.grown.trans (he.grownBy _), h.head, h.lies⟩
theorem Grow.step {α : Type} {t : Ty α} {e base : Nat} {w0 w w' : World} {u gv gv' : Value} {y z z' : List α} (h : Grow t e base w0 u y z w gv) (ho : Own t e base No w' (y ++ z') gv') (hg : w.grownBy w' gv.ownBlock)
    (hat : gv'.ownBlock = gv.ownBlock ∨ (gv'.ownBlock = some w.heap.size ∧ w.grownBy w' none)) : Grow t e base w0 u y z' w' gv' := by
  have hu : ∃ A c, u = .slice A y.length c ∧ y.length ≤ c ∧ c ≤ maxLen := h.old.any.shape
  refine ⟨ho, ?_, h.lt0, ?_, h.head, ?_⟩
  · rcases hat with hat | ⟨hat, hg0⟩
    · rcases h.lies with hl | ⟨b, hl, hb⟩
      · obtain ⟨A, c, rfl, h1, h2⟩ := hu
        have hs := ho.sl
        obtain ⟨A', c', e', h1', h2', hr⟩ := hs
        cases A with
        | none =>
          refine ⟨none, c, rfl, h1, h2, fun hne => ?_⟩
          obtain ⟨A0, c0, e0, _, _, hr0⟩ := h.old
          cases e0
          obtain ⟨b, off, e, _⟩ := hr0 hne
          cases e
        | some a =>
          obtain ⟨A0, c0, e0, h10, h20, hr0⟩ := h.old
          cases e0
          refine ⟨_, c, rfl, h1, h2, fun hne => ?_⟩
          obtain ⟨b, off, e, hb, hlt, hrow⟩ := hr0 hne
          cases e
          have hne' : y ++ z' ≠ [] := by simp [hne]
          obtain ⟨b', off', e, hb', hlt', hrow'⟩ := hr hne'
          subst e'
          subst e
          have hbb : b' = b := by
            have : (some b' : Option Nat) = some b := (hat.trans hl : _)
            exact Option.some.inj this
          subst hbb
          have hoff' : off' = 0 := by
            rcases ho.zero with ⟨e, _⟩ | ⟨g, e, _⟩
            · cases e
            · cases e; rfl
          refine ⟨b', off, rfl, hb, hlt', ?_⟩
          have hoff : off = 0 := by
            obtain ⟨A1, n1, c1, e1, h1 | ⟨g1, h1⟩⟩ := h.head
            · cases e1; cases h1
            · cases e1; cases h1; rfl
          subst hoff hoff'
          have := (hrow'.take y.length)
          rw [List.take_left] at this
          exact this.mono (fun b hb => by rcases hb with hf | hb; exact hf.elim; exact hb)
      · exact h.old.other hg (fun b' hb' _ he => by have := h.lt0 b' hb'; rw [hl] at he; have := Option.some.inj he; omega)
    · exact h.old.other hg0 (by simp)
  · rcases h.lies with hl | ⟨b, hl, hb⟩
    · exact h.grown.trans (hl ▸ hg)
    · exact grownBy_later h.grown hg (fun k hk => by rw [hl] at hk; have := Option.some.inj hk; omega)
  · rcases hat with hat | ⟨hat, _⟩
    · rw [hat]; exact h.lies
    · exact .inr ⟨_, hat, h.grown.size⟩
end Go.Eg
