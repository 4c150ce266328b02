/- What a row's arguments read as, for all rows of this seat. Conditions: none; plain theorems over any program. -/
import Derived.Test.YtaijjnndnoicpaaEgLib
import Derived.Deep.Slices
import Derived.ChangeArms
import Derived.SizedLaws
namespace Go.Eg
open Go.ChangeShapes Go.WideShapes Go.Deep

/-- A datum whose parts are all of bearable size. -/
def Fits {H : Type} (P : Program) (t : TypeId) (d : DataW H) : Prop := ∀ n ∈ d.weights P t, n ≤ reachBytes
/-- What reads by the type te reads as t says; and what is known of its size. -/
def Opens {α : Type} (P : Program) (te : TypeId) (t : Ty α) (bd : α → Prop) : Prop :=
  ∀ {H : Type} (enc : TypeId × Value → H) (w : World) (base : Nat) (spare : Nat → Bool) (held : Bool) (fuel : Nat) (cs : List Value) (x : DataW H × List MemPlace),
    DataW.trod enc P w base spare held fuel te cs = some x → Fits P te x.1 → ∃ y, t.rel Any w y cs ∧ bd y

def IntIn (k : IntKind) (x : Int) : Prop := (Lit.int k x).wf = true
theorem Opens.int {P : Program} {te : TypeId} {k : IntKind} (h : P.underlying te = some (.int k)) : Opens P te (Ty.int k) (IntIn k) := by
  intro H enc w base spare held fuel cs x hx _
  obtain ⟨n, rfl, rfl, hw⟩ := DataW.trod_int h hx
  exact ⟨n, rfl, hw⟩
theorem Opens.str {P : Program} {te : TypeId} (h : P.underlying te = some .string) : Opens P te Ty.str (fun s => s.size ≤ reachBytes) := by
  intro H enc w base spare held fuel cs x hx hf
  obtain ⟨s, rfl, rfl, hw⟩ := DataW.trod_string h hx
  refine ⟨s, rfl, ?_⟩
  have := hf s.data.toList.length (by simp [DataW.weights])
  simpa using this
theorem Opens.bool {P : Program} {te : TypeId} (h : P.underlying te = some .bool) : Opens P te Ty.bool (fun _ => True) := by
  intro H enc w base spare held fuel cs x hx _
  obtain ⟨n, rfl, rfl⟩ := DataW.trod_bool h hx
  exact ⟨n, rfl, trivial⟩

theorem weights_all {H : Type} {P : Program} {e : TypeId} {d : DataW H} : ∀ {l : List (DataW H)}, d ∈ l → ∀ n ∈ d.weights P e, n ∈ DataW.weightsAll P e l
  | a :: l, hm, n, hn => by
    simp only [DataW.weightsAll, List.mem_append]
    rcases List.mem_cons.1 hm with rfl | hm
    · exact .inl hn
    · exact .inr (weights_all hm n hn)

theorem Opens.slice {α : Type} {P : Program} {ts te : TypeId} {t : Ty α} {bd : α → Prop} (ht : P.underlying ts = some (.slice te)) (hc : P.cellsOf te = t.sz) (h0 : 0 < t.sz) (h : Opens P te t bd) :
    Opens P ts (Ty.slice t) (fun xs => xs.length * P.bytesOf te ≤ reachBytes ∧ ∀ x ∈ xs, bd x) := by
  intro H enc w base spare held fuel cs x hx hf
  rcases open_slice ht hx with ⟨rfl, rfl⟩ | ⟨a, len, cap, m, n, D, Pl, rfl, hb, hl, hm, hmm, rfl, hel⟩
  · exact ⟨[], ⟨_, rfl, Rd.nil _ _⟩, by simp⟩
  have hlm : len ≤ m := by rw [hmm]; split <;> omega
  have hfit : len * P.bytesOf te ≤ reachBytes := by
    have := hf ((len + (m - len)) * P.bytesOf te) (by simp [DataW.weights, ht])
    exact Nat.le_trans (Nat.mul_le_mul_right _ (by omega)) this
  have each : ∀ i, i < len → ∃ y : α, (∃ cs', t.rel Any w y cs' ∧ w.cells? base (a.add (i * P.cellsOf te)) (P.cellsOf te) = some cs') ∧ bd y := fun i hi => by
    obtain ⟨cs', h1, h2⟩ := hel i (by omega)
    obtain ⟨y, hy, hby⟩ := h enc w base spare held n cs' _ h2 (fun k hk => hf k (by
      simp only [DataW.weights, ht, List.mem_cons, List.mem_append]
      exact .inr (.inl (weights_all (d := D i) (List.mem_map.2 ⟨i, List.mem_range.2 hi, rfl⟩) k hk))))
    exact ⟨y, ⟨cs', hy, h1⟩, hby⟩
  have build : ∀ k, k ≤ len → ∃ ys : List α, ys.length = k ∧ ∀ i y, ys[i]? = some y → (∃ cs', t.rel Any w y cs' ∧ w.cells? base (a.add (i * P.cellsOf te)) (P.cellsOf te) = some cs') ∧ bd y := fun k => by
    induction k with
    | zero => exact fun _ => ⟨[], rfl, fun i y hy => by simp at hy⟩
    | succ k ih =>
      intro hk
      obtain ⟨ys, hy, hys⟩ := ih (by omega)
      obtain ⟨y, hy'⟩ := each k (by omega)
      refine ⟨ys ++ [y], by simp [hy], fun i z hz => ?_⟩
      rw [List.getElem?_append] at hz
      split at hz
      · exact hys i z hz
      · rename_i hge
        have hz0 : i - ys.length = 0 := by have := (List.getElem?_eq_some_iff.1 hz).1; simp at this; omega
        rw [hz0] at hz
        cases hz
        have : i = k := by omega
        subst this
        exact hy'
  obtain ⟨ys, hyl, hys⟩ := build len (Nat.le_refl _)
  refine ⟨ys, ⟨_, rfl, some a, cap, by rw [hyl], by omega, hm, fun hne => ?_⟩, by rw [hyl]; exact hfit, fun y hy => ?_⟩
  · have hpos : 0 < len := by rw [← hyl]; exact List.length_pos_iff.2 hne
    obtain ⟨⟨cs0, hr0, hc0⟩, _⟩ := hys 0 ys[0] (List.getElem?_eq_getElem (by omega))
    obtain ⟨_, hl0, hat⟩ := World.cells?_some hc0
    have h00 := hat 0 (by omega)
    have hspot : a.spot = none := by
      cases hs : a.spot with
      | none => rfl
      | some k =>
        have : (w.cell? a) = none := by
          unfold World.cell?
          split
          · simp [hs]
          · rfl
        simp only [Nat.zero_mul] at h00
        rw [show (a.add 0).add 0 = a from rfl, this] at h00
        rw [List.getElem?_eq_getElem (by omega)] at h00
        cases h00
    obtain ⟨b, off, sp⟩ := a
    cases hspot
    have hlt : b < w.heap.size := by
      rw [List.getElem?_eq_getElem (by omega)] at h00
      have h1 := World.block_lt_of_cell? w _ h00
      simpa [Addr.add, apply_ite Addr.block] using h1
    refine ⟨b, off, rfl, trivial, hlt, fun i y hy => ?_⟩
    obtain ⟨⟨cs', hr, hcs⟩, _⟩ := hys i y hy
    obtain ⟨_, hl', hat'⟩ := World.cells?_some hcs
    refine ⟨cs', hr, fun j u hu => ?_⟩
    have hj : j < cs'.length := (List.getElem?_eq_some_iff.1 hu).1
    have := hat' j (by omega)
    rw [hu, add_add] at this
    rw [← this, hc]
    congr 1
    unfold Addr.add
    split
    · rename_i h
      rw [Nat.add_assoc, h, Nat.add_zero]
    · rw [Nat.add_assoc]
  · obtain ⟨i, hi⟩ := List.getElem?_of_mem hy
    exact (hys i y hi).2

/-- An argument that is a slice. -/
theorem arg_slice {α H : Type} {P : Program} {ts te : TypeId} {t : Ty α} {bd : α → Prop} (ht : P.underlying ts = some (.slice te)) (hc : P.cellsOf te = t.sz) (h0 : 0 < t.sz) (h : Opens P te t bd)
    {enc : TypeId × Value → H} {w : World} {r : Reach} {base b0 : Nat} {spare : Nat → Bool} {held : Bool} {v : Value} {d : DataW H} {ps : List MemPlace}
    (hv : Value.okWide P w r b0 ts v) (hd : DataW.Trod enc P w base spare held ts v d ps) (hf : Fits P ts d) :
    ∃ xs, Rd t w xs v ∧ xs.length * P.bytesOf te ≤ reachBytes ∧ ∀ x ∈ xs, bd x := by
  obtain ⟨a, len, cap, rfl⟩ := okWide_slice ht hv
  obtain ⟨fuel, hx⟩ := hd
  obtain ⟨xs, ⟨v, e, hr⟩, hb⟩ := (Opens.slice ht hc h0 h) enc w base spare held fuel _ _ hx hf
  cases e
  exact ⟨xs, hr, hb⟩
theorem fits_each {H : Type} {P : Program} {ts : List TypeId} {ds : List (DataW H)} (h : (DataW.weightsEach P ts ds).all (· ≤ reachBytes) = true) {j : Nat} {t : TypeId} {d : DataW H} (ht : ts[j]? = some t) (hd : ds[j]? = some d) : Fits P t d :=
  fun n hn => by simpa using List.all_eq_true.1 h _ (DataW.weights_mem_each ht hd n hn)
theorem trod_low {H : Type} {enc : TypeId × Value → H} {P : Program} {w : World} {base : Nat} {spare : Nat → Bool} {held : Bool} {t : TypeId} {v : Value} {d : DataW H} {ps : List MemPlace} (h : DataW.Trod enc P w base spare held t v d ps) : ∀ x ∈ ps, x.block < w.heap.size := by
  obtain ⟨m, hm⟩ := h
  exact DataW.trod_lt m _ _ _ hm
end Go.Eg
