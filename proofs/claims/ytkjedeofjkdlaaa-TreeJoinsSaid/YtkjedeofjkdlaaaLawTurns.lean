/- The statement TreeTurns: its walk. Conditions: what slices read as. -/
import Derived.Test.YtkjedeofjkdlaaaKnowsC
import Derived.Test.YtkjedeofjkdlaaaKeepC
import Derived.Test.YtkjedeofjkdlaaaRefF
namespace Go.Proofs.Ytkjedeofjkdlaaa
open Go.RowKit Go.Eg

theorem revF_len (t : List Nd) : (revF t).length ≤ 100000 := by
  unfold revF
  split
  · rename_i h
    obtain ⟨hl, hk⟩ := errW_ok h
    obtain ⟨hw, hf⟩ := tr_of hk
    rw [T.rev_len, hf]; omega
  · simp
theorem renL_len (t : List Nd) (f : Nat → Int) (n : Nat) : (renL t f n).length ≤ 100000 := by
  unfold renL
  split
  · rename_i h
    have h0 : errW t = 0 := by unfold renE at h; split at h; exact absurd h (by assumption); rename_i h'; simpa using h'
    have := (errW_ok h0).1
    simp; omega
  · simp
/-- A row of one's own in another block than the lent one. -/
theorem Own.past {e base g : Nat} {w w' : World} {xs : List Nd} {v : Value} (h : Own tyNd e base No w xs v) (hg : w.grownBy w' (some g)) (hb : g < base) : Own tyNd e base No w' xs v :=
  h.other hg (fun k hk he => by have := h.lo k hk; have := Option.some.inj he; omega) (fun _ h => h.elim)

set_option maxHeartbeats 2000000 in
set_option maxRecDepth 100000 in
theorem TreeTurns_calls (t : List Nd) (to : ByteArray) (w : World) (va : Value) (ha : Rd tyNd w t va) (la : t.length * 16 ≤ 140737488351232) (hto : to.size ≤ 140737488351232) :
    Calls Try.prog 9 #[va, .string to] w fun r w' => r = .returned (.bool true) ∧ Ext w w' := by
  have hl1 := revF_len t
  have hl2 := renL_len t (bt to) to.size
  generalize hra : revF t = ra at *
  generalize hrb : renL t (bt to) to.size = rb at *
  have HRA := Lib.hid hra
  have HRB := Lib.hid hrb
  clear hra hrb
  go_enter Try.func9, Try.ntmps9
  go_wp2_with (first | ((go_at_call 11; (with_reducible refine (lentNodes_calls t _ _ ha la).mono ?_); rintro e w1 ⟨g, c, rfl, hs1, h1⟩); have hg0 := hs1.lo; have hg1 := (hs1.1.block g rfl).2) | ((go_at_call 31; (with_reducible refine (Reverse_calls t _ _ hs1.rd).mono ?_); rintro e w2 ⟨v2, rfl, ho2, h2⟩); rw [HRA.out] at ho2; obtain ⟨A2, c2, rfl, h21, h22⟩ := ho2.shape) | ((go_at_call 32; (with_reducible refine (Rename_calls t to _ _ (hs1.rd.ext (by (repeat (first | assumption | exact Ext.refl _ | apply Ext.alloc | apply Ext.drew | apply Ext.drewN | refine Ext.trans ?_ (by assumption))))) hto).mono ?_); rintro e w3 ⟨v3, rfl, ho3, h3⟩); rw [HRB.out] at ho3; obtain ⟨A3, c3, rfl, h31, h32⟩ := ho3.shape) | ((go_at_call 33; (with_reducible refine (rReverse_calls t _ _ (ha.ext (by (repeat (first | assumption | exact Ext.refl _ | apply Ext.alloc | apply Ext.drew | apply Ext.drewN | refine Ext.trans ?_ (by assumption)))))).mono ?_); rintro e w4 ⟨v4, rfl, ho4, h4⟩); rw [HRA.out] at ho4; obtain ⟨A4, c4, rfl, h41, h42⟩ := ho4.shape) | ((go_at_call 34; (with_reducible refine (rRename_calls t to _ _ (ha.ext (by (repeat (first | assumption | exact Ext.refl _ | apply Ext.alloc | apply Ext.drew | apply Ext.drewN | refine Ext.trans ?_ (by assumption))))) hto).mono ?_); rintro e w5 ⟨v5, rfl, ho5, h5⟩); rw [HRB.out] at ho5; obtain ⟨A5, c5, rfl, h51, h52⟩ := ho5.shape) | ((go_at_call 14; (with_reducible refine (num_calls _ _).mono ?_); rintro e w' ⟨rfl, hw⟩; obtain rfl := hw.symm)) | ((go_at_call 16; (with_reducible refine (stayNodes_calls t _ _ _ _ _ (hs1.ext (by (repeat (first | assumption | exact Ext.refl _ | apply Ext.alloc | apply Ext.drew | apply Ext.drewN | refine Ext.trans ?_ (by assumption))))) (ha.ext (by (repeat (first | assumption | exact Ext.refl _ | apply Ext.alloc | apply Ext.drew | apply Ext.drewN | refine Ext.trans ?_ (by assumption))))) la).mono ?_); rintro e w6 ⟨rfl, h6⟩)) | ((go_at_call 17; (with_reducible refine (knows_calls _).mono ?_); rintro e w7 ⟨rfl, h7⟩)))
  have q6 : Ext w5 w7 := h6.trans h7
  have q5 : Ext w4 w7 := h5.trans q6
  have q4 : Ext w3 w7 := h4.trans q5
  have q3 : Ext w2 w7 := h3.trans q4
  have q2 : Ext w1 w7 := h2.trans q3
  have q1 : Ext w w7 := h1.trans q2
  have b1 := h1.le
  have b2 := h2.le
  have b3 := h3.le
  have b4 := h4.le
  have b5 := h5.le
  have b7 := q6.le
  replace hs1 := hs1.ext q2
  have hd : ∀ k, (Value.slice A2 ra.length c2).ownBlock = some k → (Value.slice A3 rb.length c3).ownBlock ≠ some k := fun k hk hk' => by
    have := (ho2.block k hk).2
    have := (ho3.block k hk').1
    omega
  have HD := Lib.hid hd
  clear hd
  have p2 := (ho2.ext q3).rebase (base' := w.heap.size) (fun k hk => Nat.le_trans b1 (ho2.lo k hk))
  have p3 := (ho3.ext q4).rebase (base' := w.heap.size) (fun k hk => by have := ho3.lo k hk; omega)
  have p4 := ho4.ext q5
  have p5 := ho5.ext q6
  clear h1 h2 h3 h4 h5 h6 h7 q2 q3 q4 q5 q6 ho4 ho5
  go_at_call 18
  refine (spoilNodes_calls t g c _ w7 hs1 la).mono ?_
  rintro e w8 ⟨rfl, hg8⟩
  have q8 : Ext w w8 := q1.grown hg8 (fun k hk => by cases hk; exact hg0)
  have r2 : Own tyNd 25 w.heap.size No w8 ra (.slice A2 ra.length c2) := p2.other hg8 (fun k hk he => by have := ho2.lo k hk; have := Option.some.inj he; omega) (fun _ h => h.elim)
  have r3 : Own tyNd 25 w.heap.size No w8 rb (.slice A3 rb.length c3) := p3.other hg8 (fun k hk he => by have := ho3.lo k hk; have := Option.some.inj he; omega) (fun _ h => h.elim)
  have r4 := Own.past p4 hg8 (by omega)
  have r5 := Own.past p5 hg8 (by omega)
  clear p2 p3 p4 p5 ho2 ho3 hs1 ha hg8 q1
  have q8l := q8.le
  go_wp2_with (first | ((go_at_call 22; (with_reducible refine (sameNodes_calls ra ra _ _ _ r2.rd r4.rd).mono ?_); rintro e w9 ⟨rfl, h9⟩); rw [decide_eq_true (rfl : ra = ra)]) | ((go_at_call 22; (with_reducible refine (sameNodes_calls rb rb _ _ _ (r3.rd.ext (by (repeat (first | assumption | exact Ext.refl _ | apply Ext.alloc | apply Ext.drew | apply Ext.drewN | refine Ext.trans ?_ (by assumption))))) (r5.rd.ext (by (repeat (first | assumption | exact Ext.refl _ | apply Ext.alloc | apply Ext.drew | apply Ext.drewN | refine Ext.trans ?_ (by assumption)))))).mono ?_); rintro e w10 ⟨rfl, h10⟩); rw [decide_eq_true (rfl : rb = rb)]; have q10 := h9.trans h10; have q10l := q10.le) | ((go_at_call 19; (with_reducible refine (apartNodes_calls [ra, rb] _ w.heap.size _ (Own2.two (r2.ext q10) (r3.ext q10) HD.out (by omega)) (by simp; omega) (by simp) (by simp; exact ⟨hl1, hl2⟩)).mono ?_); rintro e w11 ⟨rfl, h11⟩)))
  go_ret
  exact ⟨rfl, Below.trans ((q8.trans q10).alloc _) h11⟩
end Go.Proofs.Ytkjedeofjkdlaaa
