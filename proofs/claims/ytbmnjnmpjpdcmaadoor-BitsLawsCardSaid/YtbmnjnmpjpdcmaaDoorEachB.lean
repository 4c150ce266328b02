/- Walks: List of package bits. Conditions: the library's table as its initialiser lays it. -/
import Derived.Test.YtbmnjnmpjpdcmaaDoorEachA
import Derived.Test.YtbmnjnmpjpdcmaaDoorListB
namespace Go.Proofs.YtbmnjnmpjpdcmaaDoor
open Go.RowKit Go.Eg

set_option maxHeartbeats 1000000 in
theorem listStep_calls (b i : Nat) (L : List Int) (v : Value) (w : World) (hv : w.cell? ⟨b, 0, none⟩ = some v) (hf : w.frozen? ⟨b, 0, none⟩ = false) (ho : Own (Ty.int .i64) 3 (b + 1) No w L v) (hb : b + 1 ≤ w.heap.size) (hl : L.length ≤ 512) :
    Calls Tryd.prog 43 #[.int .i64 (i : Int), .pointer (some ⟨b, 0, none⟩)] w fun e w' => e = .returned (.bool true) ∧ ∃ v', w'.cell? ⟨b, 0, none⟩ = some v' ∧ w'.frozen? ⟨b, 0, none⟩ = false ∧ Own (Ty.int .i64) 3 (b + 1) No w' (L ++ [(i : Int)]) v' ∧ (∀ w0, Ext w0 w → w0.heap.size ≤ b → Ext w0 w') ∧ b + 1 ≤ w'.heap.size := by
  obtain ⟨A5, c5, rfl, h51, h52⟩ := ho.shape
  go_enter Tryd.func43, Tryd.ntmps43
  go_wp2_with (first | ((with_reducible refine gate_bi .append #[.tmp 4, .tmp 6] ?_); refine wp_append (t := Ty.int .i64) 3 (b + 1) 8 elInt No _ L rfl (ho.ext (by (repeat (first | assumption | exact Ext.refl _ | apply Ext.alloc | apply Ext.drew | apply Ext.drewN | refine Ext.trans ?_ (by assumption))))) _ [(i : Int)] rfl Any (SlP.one _ _ (fun _ _ => rfl)) (fun _ _ h => h) (by simp; omega) (by decide) (by simp; omega) ?_; intro v6 w6 ho6 hg6 _; (obtain ⟨A6, c6, rfl, h61, h62⟩ := ho6.shape); (rw [show (L ++ [(i : Int)]).length = L.length + 1 by simp] at ho6); have hk6 := (hg6.block b (by simp; omega) (fun e => by have := ho.lo b e.symm; omega)); (have hc6 : w6.cell? ⟨b, 0, none⟩ = _ := (World.cell?_of_block (a := ⟨b, 0, none⟩) hk6).trans (((Ext.refl w).alloc _).cell b 0 (by omega) |>.trans hv)); (have hf6 : w6.frozen? ⟨b, 0, none⟩ = false := (World.frozen?_of_block (a := ⟨b, 0, none⟩) hk6).trans (((Ext.refl w).alloc _).frozens b 0 (by omega) |>.trans hf)); have hs6 := hg6.size; have hx6 : ∀ w0, Ext w0 w → w0.heap.size ≤ b → Ext w0 w6 := fun w0 h h2 => Ext.grown (h.alloc _) hg6 (fun k hk => by have := ho.lo k hk; omega)))
  go_ret
  refine ⟨rfl, _, World.cell?_setCell_same w6 _ _ hc6, by rw [World.frozen?_setCell]; exact hf6, ho6.set _ _ (Nat.lt_succ_self _) (fun _ h => h.elim), fun w0 h h2 => (hx6 w0 h h2).set h2 _, ?_⟩
  simp at hs6 ⊢
  omega
set_option maxHeartbeats 1000000 in
theorem List_calls (p : Nat → Bool) (w : World) (hT : Tab w) : Calls Tryd.prog 24 #[Value.agg #[.int .u64 (wd (p) 0 : Nat), .int .u64 (wd (p) 1 : Nat), .int .u64 (wd (p) 2 : Nat), .int .u64 (wd (p) 3 : Nat), .int .u64 (wd (p) 4 : Nat), .int .u64 (wd (p) 5 : Nat), .int .u64 (wd (p) 6 : Nat), .int .u64 (wd (p) 7 : Nat)]] w fun e w' => ∃ v, e = .returned v ∧ Own (Ty.int .i64) 3 w.heap.size No w' (numsB p 512) v ∧ Ext w w' := by
  obtain ⟨I, hI⟩ : ∃ I : Nat → World → Prop, I = fun i w' => ∃ v, w'.cell? ⟨w.heap.size + 1, 0, none⟩ = some v ∧ w'.frozen? ⟨w.heap.size + 1, 0, none⟩ = false ∧ Own (Ty.int .i64) 3 (w.heap.size + 1 + 1) No w' (numsB p (min i 512)) v ∧ Ext w w' ∧ w.heap.size + 1 + 1 ≤ w'.heap.size := ⟨_, rfl⟩
  have HE := Lib.hid (each_list p ⟨w.heap.size + 1, 0, none⟩ I (fun i w' h => by rw [hI] at h; obtain ⟨v, _, _, _, he, _⟩ := h; exact hT.ext he)
    (fun i w' hp h => by
      rw [hI] at h ⊢
      obtain ⟨v, h1, h2, h3, h4⟩ := h
      refine ⟨v, h1, h2, ?_, h4⟩
      by_cases hi : i < 512
      · rw [Nat.min_eq_left (by omega)] at h3 ⊢; rw [numsB_neg hp]; exact h3
      · rw [Nat.min_eq_right (by omega)] at h3 ⊢; exact h3)
    (fun i w' hi hp h => by
      rw [hI] at h
      obtain ⟨v, h1, h2, h3, h4, h5⟩ := h
      rw [Nat.min_eq_left (by omega)] at h3
      refine (listStep_calls _ i _ v w' h1 h2 h3 h5 (Nat.le_trans (numsB_len p i) (by omega))).mono ?_
      rintro e w2 ⟨rfl, v', k1, k2, k3, k4, k5⟩
      rw [hI]
      exact ⟨rfl, v', k1, k2, by rw [Nat.min_eq_left (by omega), numsB_pos hp]; exact k3, k4 _ h4 (Nat.le_succ _), k5⟩))
  have H0 : Hid (∀ o, I 0 (((w.alloc (.cells #[Value.int .u64 (wd (p) 0 : Nat), .int .u64 (wd (p) 1 : Nat), .int .u64 (wd (p) 2 : Nat), .int .u64 (wd (p) 3 : Nat), .int .u64 (wd (p) 4 : Nat), .int .u64 (wd (p) 5 : Nat), .int .u64 (wd (p) 6 : Nat), .int .u64 (wd (p) 7 : Nat)] 24)).alloc (.cells #[.slice none 0 0] 31)).alloc o)) := by
    show ∀ o, I 0 _
    intro o
    rw [hI]
    refine ⟨.slice none 0 0, (((Ext.refl _).alloc o).cell _ _ (by simp)).trans (by simp), (((Ext.refl _).alloc o).frozens _ _ (by simp)).trans (by simp), Own.nil _ _ _ _ _, by (repeat (first | assumption | exact Ext.refl _ | apply Ext.alloc | apply Ext.drew | apply Ext.drewN | refine Ext.trans ?_ (by assumption))), by simp⟩
  go_enter Tryd.func24, Tryd.ntmps24
  go_wp2_with (first | ((go_at_call 38; (with_reducible refine (HE.out _ (H0.out _)).mono ?_); rintro e w1 ⟨rfl, h1⟩); rw [hI] at h1; obtain ⟨v1, k1, k2, k3, k4, k5⟩ := h1))
  go_ret
  exact ⟨_, rfl, k3.rebase (fun k hk => by have := k3.lo k hk; omega), k4⟩
end Go.Proofs.YtbmnjnmpjpdcmaaDoor
