/- The statement TreeParts: its walk. Conditions: what slices read as. -/
import Derived.Test.YtkjedeofjkdlaaaKnowsC
import Derived.Test.YtkjedeofjkdlaaaKeepC
import Derived.Test.YtkjedeofjkdlaaaKeepD
import Derived.Test.YtkjedeofjkdlaaaRefD
import Derived.Test.YtkjedeofjkdlaaaBackM
namespace Go.Proofs.Ytkjedeofjkdlaaa
open Go.RowKit Go.Eg

set_option maxHeartbeats 2000000 in
set_option maxRecDepth 100000 in
theorem TreeParts_err (t : List Nd) (h : errW t ≠ 0) (w : World) (va : Value) (ha : Rd tyNd w t va) (la : t.length * 16 ≤ 140737488351232) :
    Calls Try.prog 3 #[va] w fun r w' => r = .returned (.bool true) ∧ Ext w w' := by
  generalize he : errW t = e at *
  have HE := Lib.hid he
  have HEN := Lib.hid h
  clear he h
  go_enter Try.func3, Try.ntmps3
  go_wp2_with (first | ((go_at_call 11; (with_reducible refine (lentNodes_calls t _ _ ha la).mono ?_); rintro e w1 ⟨g, c, rfl, hs1, h1⟩); have hg0 := hs1.lo; have hg1 := (hs1.1.block g rfl).2) | ((go_at_call 12; (with_reducible refine (Parts_err t _ _ hs1.rd (by rw [HE.out]; exact HEN.out)).mono ?_); rintro e w2 ⟨rfl, h2⟩); rw [HE.out]) | ((go_at_call 13; (with_reducible refine (rParts_err t _ _ (ha.ext (by (repeat (first | assumption | exact Ext.refl _ | apply Ext.alloc | apply Ext.drew | apply Ext.drewN | refine Ext.trans ?_ (by assumption))))) (by rw [HE.out]; exact HEN.out)).mono ?_); rintro e w3 ⟨rfl, h3⟩); rw [HE.out]; have := (h3).cells; have := (h3).frozens; have : w2.heap.size < w3.heap.size := Nat.lt_of_lt_of_le (by first | assumption | (simp; done) | (simp; omega)) (h3).le) | ((go_at_call 14; (with_reducible refine (num_calls _ _).mono ?_); rintro e w' ⟨rfl, hw⟩; obtain rfl := hw.symm)) | ((go_at_call 15; (with_reducible refine (sameTrees_calls [] _ _ _ (Rd.nil _ _) (Rd.nil _ _)).mono ?_); rintro e w4 ⟨rfl, h4⟩)) | ((go_at_call 16; (with_reducible refine (stayNodes_calls t _ _ _ _ _ (hs1.ext (by (repeat (first | assumption | exact Ext.refl _ | apply Ext.alloc | apply Ext.drew | apply Ext.drewN | refine Ext.trans ?_ (by assumption))))) (ha.ext (by (repeat (first | assumption | exact Ext.refl _ | apply Ext.alloc | apply Ext.drew | apply Ext.drewN | refine Ext.trans ?_ (by assumption))))) la).mono ?_); rintro e w5 ⟨rfl, h5⟩)) | ((go_at_call 17; (with_reducible refine (knows_calls _).mono ?_); rintro e w6 ⟨rfl, h6⟩)))
  have q : Ext w w6 := by (repeat (first | assumption | exact Ext.refl _ | apply Ext.alloc | apply Ext.drew | apply Ext.drewN | refine Ext.trans ?_ (by assumption)))
  have q1 : Ext w1 w6 := (((h2.alloc _).trans h3).alloc _).trans ((h4.trans h5).trans h6)
  go_at_call 18
  refine (spoilNodes_calls t g c _ w6 (hs1.ext q1) la).mono ?_
  rintro e w8 ⟨rfl, hg8⟩
  have q8 : Ext w w8 := q.grown hg8 (fun k hk => by cases hk; exact hg0)
  have q8l := q8.le
  clear q q1 h1 h2 h3 h4 h5 h6 hg8 hs1 ha
  go_wp2_with (first | ((go_at_call 15; (with_reducible refine (sameTrees_calls [] _ _ _ (Rd.nil _ _) (Rd.nil _ _)).mono ?_); rintro e w9 ⟨rfl, h9⟩); have h9l := h9.le) | ((go_at_call 19; (with_reducible refine (apartNodes_calls [] _ w.heap.size _ (Own2.nil _ _ _ _ _) (by omega) (by simp) (by simp)).mono ?_); rintro e w10 ⟨rfl, h10⟩)))
  go_ret
  exact ⟨rfl, Below.trans (q8.trans h9) h10⟩

set_option maxHeartbeats 2000000 in
set_option maxRecDepth 100000 in
theorem TreeParts_ok (x : T) (hx : x.wf) (t : List Nd) (ht : t = x.flat) (hlen : t.length ≤ 4000) (w : World) (va : Value) (ha : Rd tyNd w t va) (la : t.length * 16 ≤ 140737488351232) :
    Calls Try.prog 3 #[va] w fun r w' => r = .returned (.bool true) ∧ Ext w w' := by
  have hpl : (x.kids.map T.flat).length ≤ 1000 := by
    have : x.kids.length ≤ 2 := by cases x <;> simp [T.kids]
    rw [List.length_map]; omega
  have hpk : ∀ p ∈ x.kids.map T.flat, p.length ≤ 100000 := fun p hp => by
    obtain ⟨y, hy, rfl⟩ := List.mem_map.1 hp
    have := kid_len hy
    rw [← ht] at this
    omega
  have HT := Lib.hid ht
  have HPK := Lib.hid hpk
  clear ht hpk
  generalize hps : x.kids.map T.flat = ps at *
  have HPS := Lib.hid hps
  clear hps
  go_enter Try.func3, Try.ntmps3
  go_wp2_with (first | ((go_at_call 11; (with_reducible refine (lentNodes_calls t _ _ ha la).mono ?_); rintro e w1 ⟨g, c, rfl, hs1, h1⟩); have hg0 := hs1.lo; have hg1 := (hs1.1.block g rfl).2) | ((go_at_call 12; (with_reducible refine (Parts_ok x hx t HT.out hlen _ _ hs1.rd).mono ?_); rintro e w2 ⟨v2, rfl, ho2, h2⟩); rw [HPS.out] at ho2; obtain ⟨A2, c2, rfl, -, -⟩ := ho2.shape) | ((go_at_call 13; (with_reducible refine (rParts_ok x hx t HT.out hlen _ (fun b => Any b ∧ b < w.heap.size) _ (ha.sl.low.extB (by (repeat (first | assumption | exact Ext.refl _ | apply Ext.alloc | apply Ext.drew | apply Ext.drewN | refine Ext.trans ?_ (by assumption)))))).mono ?_); rintro e w3 ⟨v3, rfl, ho3, h3⟩); rw [HPS.out] at ho3; obtain ⟨A3, c3, rfl, -, -⟩ := ho3.any.shape; have := (h3).cells; have := (h3).frozens; have : w2.heap.size < w3.heap.size := Nat.lt_of_lt_of_le (by first | assumption | (simp; done) | (simp; omega)) (h3).le) | ((go_at_call 14; (with_reducible refine (num_calls _ _).mono ?_); rintro e w' ⟨rfl, hw⟩; obtain rfl := hw.symm)) | ((go_at_call 15; (with_reducible refine (sameTrees_calls ps _ _ _ (ho2.rd.ext (by (repeat (first | assumption | exact Ext.refl _ | apply Ext.alloc | apply Ext.drew | apply Ext.drewN | refine Ext.trans ?_ (by assumption))))) (ho3.any.ext (by (repeat (first | assumption | exact Ext.refl _ | apply Ext.alloc | apply Ext.drew | apply Ext.drewN | refine Ext.trans ?_ (by assumption)))))).mono ?_); rintro e w4 ⟨rfl, h4⟩)) | ((go_at_call 16; (with_reducible refine (stayNodes_calls t _ _ _ _ _ (hs1.ext (by (repeat (first | assumption | exact Ext.refl _ | apply Ext.alloc | apply Ext.drew | apply Ext.drewN | refine Ext.trans ?_ (by assumption))))) (ha.ext (by (repeat (first | assumption | exact Ext.refl _ | apply Ext.alloc | apply Ext.drew | apply Ext.drewN | refine Ext.trans ?_ (by assumption))))) la).mono ?_); rintro e w5 ⟨rfl, h5⟩)) | ((go_at_call 17; (with_reducible refine (knows_calls _).mono ?_); rintro e w6 ⟨rfl, h6⟩)))
  have q36 : Ext w3 w6 := by
    have a3 : Ext w3 w4 := ((Ext.refl w3).alloc _).trans h4
    exact (a3.trans h5).trans h6
  have q26 : Ext w2 w6 := (((Ext.refl w2).alloc _).trans h3).trans q36
  have q16 : Ext w1 w6 := h2.trans q26
  have q : Ext w w6 := h1.trans q16
  have l1 := h1.le
  have l2 := h2.le
  go_at_call 18
  refine (spoilNodes_calls t g c _ w6 (hs1.ext q16) la).mono ?_
  rintro e w8 ⟨rfl, hg8⟩
  have q8 : Ext w w8 := q.grown hg8 (fun k hk => by cases hk; exact hg0)
  have r2 := ((ho2.ext q26).other hg8 (fun k hk => .inl (by cases hk; exact hg1))).rebase (base' := w.heap.size) l1
  have r3 := ((ho3.extB q36).other hg8 (fun b hb _ he => by
    have := Option.some.inj he
    rcases hb with hb | hb
    · have := hb.2; omega
    · simp at hb; omega)).any
  have q8l := q8.le
  clear q q16 q26 q36 h1 h2 h3 h4 h5 h6 hg8 hs1 ha ho2 ho3
  go_wp2_with (first | ((go_at_call 15; (with_reducible refine (sameTrees_calls ps _ _ _ r2.rd r3).mono ?_); rintro e w9 ⟨rfl, h9⟩); have h9l := h9.le) | ((go_at_call 19; (with_reducible refine (apartNodes_calls ps _ w.heap.size _ (r2.ext (by (repeat (first | assumption | exact Ext.refl _ | apply Ext.alloc | apply Ext.drew | apply Ext.drewN | refine Ext.trans ?_ (by assumption))))) (by omega) hpl HPK.out).mono ?_); rintro e w10 ⟨rfl, h10⟩)))
  go_ret
  exact ⟨rfl, Below.trans (q8.trans h9) h10⟩

theorem TreeParts_calls (t : List Nd) (w : World) (va : Value) (ha : Rd tyNd w t va) (la : t.length * 16 ≤ 140737488351232) :
    Calls Try.prog 3 #[va] w fun r w' => r = .returned (.bool true) ∧ Ext w w' := by
  by_cases h : errW t = 0
  · obtain ⟨hl, hk⟩ := errW_ok h
    obtain ⟨hw, hf⟩ := tr_of hk
    exact TreeParts_ok (tr t) hw t hf.symm hl w va ha la
  · exact TreeParts_err t h w va ha la
end Go.Proofs.Ytkjedeofjkdlaaa
