/- Walks of chapter 3's statements' own functions: num, Some, knows. Conditions: none. -/
import Derived.Test.YtkjedeofjkdlaaaKeepA
import Derived.Test.YtkjedeofjkdlaaaEgMore
import Derived.Test.YtkjedeofjkdlaaaTreeC
import Derived.Test.YtkjedeofjkdlaaaTreeE
namespace Go.Proofs.Ytkjedeofjkdlaaa
open Go.RowKit Go.Eg

theorem num_calls (e : Int) (w : World) : Calls Try.prog 14 #[.int .i64 e] w fun r w' => r = .returned (.int .i64 e) ∧ w' = w := by
  go_enter Try.func14, Try.ntmps14
  go_wp2_with fail
  go_ret
  exact ⟨rfl, rfl⟩

def someT : List Nd := [⟨3, 97⟩, ⟨3, 98⟩, ⟨8, 0⟩, ⟨7, 0⟩]
def someX : T := .bin ⟨7, 0⟩ (.leaf ⟨3, 97⟩) (.un ⟨8, 0⟩ (.leaf ⟨3, 98⟩))
theorem some_calls (w : World) : Calls Try.prog 41 #[] w fun r w' => ∃ v, r = .returned v ∧ Rd tyNd w' someT v ∧ Ext w w' := by
  go_enter Try.func41, Try.ntmps41
  go_wp2_with fail
  go_ret
  refine ⟨_, rfl, SlP.lit (t := tyNd) someT _ (n := 4) rfl (by decide) trivial (fun i x hx => ?_), (Ext.refl _).alloc _⟩
  match i, hx with
  | 0, hx => cases hx; exact ⟨_, ⟨rfl, by decide⟩, fun j u hu => by match j, hu with | 0, hu => exact hu | 1, hu => exact hu | j + 2, hu => simp at hu⟩
  | 1, hx => cases hx; exact ⟨_, ⟨rfl, by decide⟩, fun j u hu => by match j, hu with | 0, hu => exact hu | 1, hu => exact hu | j + 2, hu => simp at hu⟩
  | 2, hx => cases hx; exact ⟨_, ⟨rfl, by decide⟩, fun j u hu => by match j, hu with | 0, hu => exact hu | 1, hu => exact hu | j + 2, hu => simp at hu⟩
  | 3, hx => cases hx; exact ⟨_, ⟨rfl, by decide⟩, fun j u hu => by match j, hu with | 0, hu => exact hu | 1, hu => exact hu | j + 2, hu => simp at hu⟩
  | i + 4, hx => simp [someT] at hx

theorem someX_wf : someX.wf := by refine ⟨by decide, by decide, ?_, by decide, by decide, ?_⟩ <;> exact ⟨by decide, by decide⟩
theorem someX_flat : someT = someX.flat := rfl
theorem someT_err : errW someT = 0 := by rw [someX_flat]; exact errW_flat someX_wf (by decide)
theorem someT_dep : depF everyK someT = 3 := by unfold depF; rw [if_pos someT_err, someX_flat, tr_flat someX_wf]; decide

def someP : List Nd := [⟨3, 98⟩, ⟨8, 0⟩]
theorem someParts (v : Value) (w : World) (hr : Rd tyNd w someT v) : Calls Try.prog 12 #[v] w fun e w' => ∃ g c u,
    e = .returned (.tuple #[.agg #[.int .i64 7, .int .u8 0], .slice (some ⟨g, 0, none⟩) 2 c, .int .i64 0]) ∧ 2 ≤ c ∧ g < w'.heap.size ∧ w'.cell? ⟨g, 1, none⟩ = some u ∧ Rd tyNd w' someP u ∧ Ext w w' := by
  refine (Parts_ok someX someX_wf someT someX_flat (by decide) v w hr).mono ?_
  rintro e w' ⟨v', rfl, ho, he⟩
  obtain ⟨A, c, rfl, hl, -⟩ := ho.shape
  obtain ⟨g, u, rfl, -, hg, hc, -, hou, -⟩ := ho.get (i := 1) (x := someP) rfl
  exact ⟨g, c, u, rfl, hl, hg, hc, hou.rd, he⟩

set_option maxHeartbeats 1000000 in
set_option maxRecDepth 100000 in
theorem knows_calls (w : World) : Calls Try.prog 17 #[] w fun r w' => r = .returned (.bool true) ∧ Ext w w' := by
  have hd := someT_dep
  have he := someT_err
  go_enter Try.func17, Try.ntmps17
  go_wp2_with (first | ((go_at_call 41; (with_reducible refine (some_calls _).mono ?_); rintro e w1 ⟨v1, rfl, hr1, h1⟩); obtain ⟨A1, c1, rfl, hl1, hm1⟩ := hr1.shape; try (have := (h1).cells; have := (h1).frozens; have : g < w1.heap.size := Nat.lt_of_lt_of_le (by first | assumption | (simp; done) | (simp; omega)) (h1).le; have : w2.heap.size < w1.heap.size := Nat.lt_of_lt_of_le (by first | assumption | (simp; done) | (simp; omega)) (h1).le)) | ((go_at_call 12; (with_reducible refine (someParts _ _ hr1).mono ?_); rintro e w2 ⟨g, c2, u2, rfl, hlc2, hg2, hc2, hru2, h2⟩); clear hr1; have hg2a : g < w2.heap.size + 1 := Nat.lt_succ_of_lt hg2; have hg2b : g ≠ w2.heap.size := Nat.ne_of_lt hg2; have hg2c : ∀ o : Obj, (w2.alloc o).cell? ⟨g, 1, none⟩ = some u2 := fun o => (((Ext.refl w2).alloc o).cells g 1 hg2).trans hc2) | ((go_at_call 23; (with_reducible refine (Depth_calls someT _ _ hr1).mono ?_); rintro e w3 ⟨rfl, h3⟩); rw [hd, he]; have := (h3).cells; have := (h3).frozens; have : g < w3.heap.size := Nat.lt_of_lt_of_le (by first | assumption | (simp; done) | (simp; omega)) (h3).le; have : w2.heap.size < w3.heap.size := Nat.lt_of_lt_of_le (by first | assumption | (simp; done) | (simp; omega)) (h3).le))
  replace hru2 := hru2.ext (by (repeat (first | assumption | exact Ext.refl _ | apply Ext.alloc | apply Ext.drew | apply Ext.drewN | refine Ext.trans ?_ (by assumption))) : Ext w2 w3)
  go_region_held3 (fun w' => w'.cell? ⟨w2.heap.size, 0, none⟩ = some (.int .i64 7) ∧ w'.cell? ⟨g, 1, none⟩ = some u2 ∧ Ext w3 w') (exact ⟨by first | assumption | simp [*], by first | assumption | simp [*], by (repeat (first | assumption | exact Ext.refl _ | apply Ext.alloc | apply Ext.drew | apply Ext.drewN | refine Ext.trans ?_ (by assumption)))⟩) (first | ((go_at_call 14; (with_reducible refine (num_calls _ _).mono ?_); rintro e w' ⟨rfl, hw⟩; obtain rfl := hw.symm)) | ((go_at_call 41; (with_reducible refine (some_calls _).mono ?_); rintro e w4 ⟨v4, rfl, hr4, h4⟩); replace h4 := Ext.undrew h4; obtain ⟨A4, c4, rfl, hl4, hm4⟩ := hr4.shape; have hl4' : (3 : Int) ≤ (c4 : Int) := by {have : someT.length = 4 := rfl; omega}; obtain ⟨b4, o4, rfl, hp4⟩ := hr4.piece 1 2 (c4 - 1) (by decide) (by decide) (by have : someT.length = 4 := rfl; omega) (Nat.le_refl _); have hc41 : c4 ≠ 1 := (by omega); have hp4' : Rd tyNd w4 someP (.slice (some ⟨b4, o4 + 2, none⟩) 2 (c4 - 1)) := hp4; have := (h4).cells; have := (h4).frozens; have : g < w4.heap.size := Nat.lt_of_lt_of_le (by first | assumption | (simp; done) | (simp; omega)) (h4).le; have : w2.heap.size < w4.heap.size := Nat.lt_of_lt_of_le (by first | assumption | (simp; done) | (simp; omega)) (h4).le) | ((go_at_call 22; (with_reducible refine (sameNodes_calls someP someP _ _ _ (hru2.ext (by (repeat (first | assumption | exact Ext.refl _ | apply Ext.alloc | apply Ext.drew | apply Ext.drewN | refine Ext.trans ?_ (by assumption))))) (hp4)).mono ?_); rintro e w5 ⟨rfl, h5⟩); have := (h5).cells; have := (h5).frozens; have : g < w5.heap.size := Nat.lt_of_lt_of_le (by first | assumption | (simp; done) | (simp; omega)) (h5).le; have : w2.heap.size < w5.heap.size := Nat.lt_of_lt_of_le (by first | assumption | (simp; done) | (simp; omega)) (h5).le))
  go_wp2_with fail
  go_ret
  exact ⟨rfl, by (repeat (first | assumption | exact Ext.refl _ | apply Ext.alloc | apply Ext.drew | apply Ext.drewN | refine Ext.trans ?_ (by assumption)))⟩
end Go.Proofs.Ytkjedeofjkdlaaa
