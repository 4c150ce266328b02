/- The walk of the law BitsLists. Conditions: the library's table as its initialiser lays it. -/
import Derived.Test.YtbmnjnmpjpdcmaaDoorEachB
import Derived.Test.YtbmnjnmpjpdcmaaDoorEachG
import Derived.Test.YtbmnjnmpjpdcmaaDoorRefWith
import Derived.Test.YtbmnjnmpjpdcmaaDoorKeepJ
import Derived.Test.YtbmnjnmpjpdcmaaDoorBitsJ
import Derived.Test.YtbmnjnmpjpdcmaaDoorBitsD
import Derived.Test.YtbmnjnmpjpdcmaaDoorSetEq
import Derived.Test.YtbmnjnmpjpdcmaaDoorRowSet
namespace Go.Proofs.YtbmnjnmpjpdcmaaDoor
open Go.RowKit Go.Eg

set_option maxHeartbeats 8000000 in
set_option maxRecDepth 100000 in
theorem lawLists_calls (xs : List Int) (p : Nat → Bool) (x : Int) (w : World) (hT : Tab w) (v : Value) (hr : Rd (Ty.int .i64) w xs v) (hl : xs.length * 8 ≤ 140737488351232) (_ : ∀ x ∈ xs, IntIn .i64 x) (_ : IntIn .i64 x) :
    Calls Tryd.prog 5 #[v, Value.agg #[.int .u64 (wd (p) 0 : Nat), .int .u64 (wd (p) 1 : Nat), .int .u64 (wd (p) 2 : Nat), .int .u64 (wd (p) 3 : Nat), .int .u64 (wd (p) 4 : Nat), .int .u64 (wd (p) 5 : Nat), .int .u64 (wd (p) 6 : Nat), .int .u64 (wd (p) 7 : Nat)], .int .i64 x] w fun e w' => e = .returned (.bool true) ∧ Ext w w' := by
  obtain ⟨A0, c0, rfl, hlc, hcm⟩ := hr.shape
  have heq := eq_set
  have HX0 : Hid (Ext w (w.alloc (.cells #[Value.int .u64 (wd (p) 0 : Nat), .int .u64 (wd (p) 1 : Nat), .int .u64 (wd (p) 2 : Nat), .int .u64 (wd (p) 3 : Nat), .int .u64 (wd (p) 4 : Nat), .int .u64 (wd (p) 5 : Nat), .int .u64 (wd (p) 6 : Nat), .int .u64 (wd (p) 7 : Nat)] 24))) := by show Ext _ _; (repeat (first | assumption | exact Ext.refl _ | apply Ext.alloc | apply Ext.drew | apply Ext.drewN | refine Ext.set ?_ (by first | exact Nat.le_refl _ | assumption | exact Nat.le_succ _ | exact Nat.le_add_right _ _ | exact Nat.le_trans (Nat.le_succ _) (Nat.le_succ _) | omega) _ | refine Ext.trans ?_ (by assumption)))
  have HT := Lib.hid hT
  have HR := Lib.hid (hr.ext HX0.out)
  obtain ⟨r, hrr⟩ : ∃ r, r = ofS xs := ⟨_, rfl⟩
  obtain ⟨e, he⟩ : ∃ e, e = ofE xs := ⟨_, rfl⟩
  obtain ⟨a, ha⟩ : ∃ a, a = withS p x := ⟨_, rfl⟩
  obtain ⟨d, hd⟩ : ∃ d, d = dropS p x := ⟨_, rfl⟩
  obtain ⟨e2, he2⟩ : ∃ e2, e2 = errI x := ⟨_, rfl⟩
  have Hr := Lib.hid hrr
  have He := Lib.hid he
  have Ha := Lib.hid ha
  have Hd := Lib.hid hd
  have He2 := Lib.hid he2
  clear hT hr hrr he ha hd he2
  go_enter Tryd.func5, Tryd.ntmps5
  go_wp2_with (first
    | ((go_at_call 14; (with_reducible refine (lentInts_calls xs _ _ HR.out hl).mono ?_); rintro e w1 ⟨g, c, rfl, hlt, h1⟩); have := (h1).cells; have := (h1).frozens; have : w.heap.size < w1.heap.size := Nat.lt_of_lt_of_le (by first | assumption | (simp; done) | (simp; omega)) (h1).le)
    | ((go_at_call 15; (with_reducible refine (Of_calls xs _ _ hlt.rd).mono ?_); rintro e w2 ⟨rfl, h2⟩); rw [← Hr.out, ← He.out]; have := (h2).cells; have := (h2).frozens; have : w.heap.size < w2.heap.size := Nat.lt_of_lt_of_le (by first | assumption | (simp; done) | (simp; omega)) (h2).le)
    | ((go_at_call 16; (with_reducible refine (rOf_calls xs _ _ (HR.out.ext (by (repeat (first | assumption | exact Ext.refl _ | apply Ext.alloc | apply Ext.drew | apply Ext.drewN | refine Ext.trans ?_ (by assumption)))))).mono ?_); rintro e w3 ⟨rfl, h3⟩); rw [← Hr.out, ← He.out]; have := (h3).cells; have := (h3).frozens; have : w.heap.size < w3.heap.size := Nat.lt_of_lt_of_le (by first | assumption | (simp; done) | (simp; omega)) (h3).le)
    | ((go_at_call 17; (with_reducible refine (With_calls p x _).mono ?_); rintro e w4 ⟨rfl, h4⟩); rw [← Ha.out, ← He2.out]; have := (h4).cells; have := (h4).frozens; have : w.heap.size < w4.heap.size := Nat.lt_of_lt_of_le (by first | assumption | (simp; done) | (simp; omega)) (h4).le)
    | ((go_at_call 18; (with_reducible refine (rWith_calls p x _).mono ?_); rintro e w5 ⟨rfl, h5⟩); rw [← Ha.out, ← He2.out]; have := (h5).cells; have := (h5).frozens; have : w.heap.size < w5.heap.size := Nat.lt_of_lt_of_le (by first | assumption | (simp; done) | (simp; omega)) (h5).le)
    | ((go_at_call 19; (with_reducible refine (Without_calls p x _).mono ?_); rintro e w6 ⟨rfl, h6⟩); rw [← Hd.out, ← He2.out]; have := (h6).cells; have := (h6).frozens; have : w.heap.size < w6.heap.size := Nat.lt_of_lt_of_le (by first | assumption | (simp; done) | (simp; omega)) (h6).le)
    | ((go_at_call 20; (with_reducible refine (rWithout_calls p x _).mono ?_); rintro e w7 ⟨rfl, h7⟩); rw [← Hd.out, ← He2.out]; have := (h7).cells; have := (h7).frozens; have : w.heap.size < w7.heap.size := Nat.lt_of_lt_of_le (by first | assumption | (simp; done) | (simp; omega)) (h7).le))
  have g1 := h1.le
  have g2 := h2.le
  have g3 := h3.le
  have g4 := h4.le
  have g5 := h5.le
  have g6 := h6.le
  have g7 := h7.le
  simp only [World.size_alloc] at g1 g2 g3 g4 g5 g6 g7
  have H2 : Hid (Arr (w7.alloc (.cells #[Value.int .u64 (wd (d) 0 : Nat), .int .u64 (wd (d) 1 : Nat), .int .u64 (wd (d) 2 : Nat), .int .u64 (wd (d) 3 : Nat), .int .u64 (wd (d) 4 : Nat), .int .u64 (wd (d) 5 : Nat), .int .u64 (wd (d) 6 : Nat), .int .u64 (wd (d) 7 : Nat)] 24)) w2.heap.size r) := Lib.hid (((Arr.made r rfl).ext (by (repeat (first | assumption | exact Ext.refl _ | apply Ext.alloc | apply Ext.drew | apply Ext.drewN | refine Ext.trans ?_ (by assumption))) : Ext (w2.alloc (.cells #[Value.int .u64 (wd (r) 0 : Nat), .int .u64 (wd (r) 1 : Nat), .int .u64 (wd (r) 2 : Nat), .int .u64 (wd (r) 3 : Nat), .int .u64 (wd (r) 4 : Nat), .int .u64 (wd (r) 5 : Nat), .int .u64 (wd (r) 6 : Nat), .int .u64 (wd (r) 7 : Nat)] 24)) w7) (by simp)).old (by omega))
  have H3 : Hid (Arr (w7.alloc (.cells #[Value.int .u64 (wd (d) 0 : Nat), .int .u64 (wd (d) 1 : Nat), .int .u64 (wd (d) 2 : Nat), .int .u64 (wd (d) 3 : Nat), .int .u64 (wd (d) 4 : Nat), .int .u64 (wd (d) 5 : Nat), .int .u64 (wd (d) 6 : Nat), .int .u64 (wd (d) 7 : Nat)] 24)) w3.heap.size r) := Lib.hid (((Arr.made r rfl).ext (by (repeat (first | assumption | exact Ext.refl _ | apply Ext.alloc | apply Ext.drew | apply Ext.drewN | refine Ext.trans ?_ (by assumption))) : Ext (w3.alloc (.cells #[Value.int .u64 (wd (r) 0 : Nat), .int .u64 (wd (r) 1 : Nat), .int .u64 (wd (r) 2 : Nat), .int .u64 (wd (r) 3 : Nat), .int .u64 (wd (r) 4 : Nat), .int .u64 (wd (r) 5 : Nat), .int .u64 (wd (r) 6 : Nat), .int .u64 (wd (r) 7 : Nat)] 24)) w7) (by simp)).old (by omega))
  have H4 : Hid (Arr (w7.alloc (.cells #[Value.int .u64 (wd (d) 0 : Nat), .int .u64 (wd (d) 1 : Nat), .int .u64 (wd (d) 2 : Nat), .int .u64 (wd (d) 3 : Nat), .int .u64 (wd (d) 4 : Nat), .int .u64 (wd (d) 5 : Nat), .int .u64 (wd (d) 6 : Nat), .int .u64 (wd (d) 7 : Nat)] 24)) w4.heap.size a) := Lib.hid (((Arr.made a rfl).ext (by (repeat (first | assumption | exact Ext.refl _ | apply Ext.alloc | apply Ext.drew | apply Ext.drewN | refine Ext.trans ?_ (by assumption))) : Ext (w4.alloc (.cells #[Value.int .u64 (wd (a) 0 : Nat), .int .u64 (wd (a) 1 : Nat), .int .u64 (wd (a) 2 : Nat), .int .u64 (wd (a) 3 : Nat), .int .u64 (wd (a) 4 : Nat), .int .u64 (wd (a) 5 : Nat), .int .u64 (wd (a) 6 : Nat), .int .u64 (wd (a) 7 : Nat)] 24)) w7) (by simp)).old (by omega))
  have H5 : Hid (Arr (w7.alloc (.cells #[Value.int .u64 (wd (d) 0 : Nat), .int .u64 (wd (d) 1 : Nat), .int .u64 (wd (d) 2 : Nat), .int .u64 (wd (d) 3 : Nat), .int .u64 (wd (d) 4 : Nat), .int .u64 (wd (d) 5 : Nat), .int .u64 (wd (d) 6 : Nat), .int .u64 (wd (d) 7 : Nat)] 24)) w5.heap.size a) := Lib.hid (((Arr.made a rfl).ext (by (repeat (first | assumption | exact Ext.refl _ | apply Ext.alloc | apply Ext.drew | apply Ext.drewN | refine Ext.trans ?_ (by assumption))) : Ext (w5.alloc (.cells #[Value.int .u64 (wd (a) 0 : Nat), .int .u64 (wd (a) 1 : Nat), .int .u64 (wd (a) 2 : Nat), .int .u64 (wd (a) 3 : Nat), .int .u64 (wd (a) 4 : Nat), .int .u64 (wd (a) 5 : Nat), .int .u64 (wd (a) 6 : Nat), .int .u64 (wd (a) 7 : Nat)] 24)) w7) (by simp)).old (by omega))
  have H6 : Hid (Arr (w7.alloc (.cells #[Value.int .u64 (wd (d) 0 : Nat), .int .u64 (wd (d) 1 : Nat), .int .u64 (wd (d) 2 : Nat), .int .u64 (wd (d) 3 : Nat), .int .u64 (wd (d) 4 : Nat), .int .u64 (wd (d) 5 : Nat), .int .u64 (wd (d) 6 : Nat), .int .u64 (wd (d) 7 : Nat)] 24)) w6.heap.size d) := Lib.hid (((Arr.made d rfl).ext h7 (by simp)).old (by omega))
  have H7 : Hid (Arr (w7.alloc (.cells #[Value.int .u64 (wd (d) 0 : Nat), .int .u64 (wd (d) 1 : Nat), .int .u64 (wd (d) 2 : Nat), .int .u64 (wd (d) 3 : Nat), .int .u64 (wd (d) 4 : Nat), .int .u64 (wd (d) 5 : Nat), .int .u64 (wd (d) 6 : Nat), .int .u64 (wd (d) 7 : Nat)] 24)) w7.heap.size d) := Lib.hid (Arr.made d rfl)
  have x7 : Ext w1 w7 := by (repeat (first | assumption | exact Ext.refl _ | apply Ext.alloc | apply Ext.drew | apply Ext.drewN | refine Ext.trans ?_ (by assumption)))
  have HB5 : Hid (Arr (w7.alloc (.cells #[Value.int .u64 (wd (d) 0 : Nat), .int .u64 (wd (d) 1 : Nat), .int .u64 (wd (d) 2 : Nat), .int .u64 (wd (d) 3 : Nat), .int .u64 (wd (d) 4 : Nat), .int .u64 (wd (d) 5 : Nat), .int .u64 (wd (d) 6 : Nat), .int .u64 (wd (d) 7 : Nat)] 24)) w.heap.size p) := Lib.hid ((((Arr.made p rfl).ext h1 (by simp)).ext x7 (by omega)).old (by omega))
  have HLT : Hid (LentI (w.alloc (.cells #[Value.int .u64 (wd (p) 0 : Nat), .int .u64 (wd (p) 1 : Nat), .int .u64 (wd (p) 2 : Nat), .int .u64 (wd (p) 3 : Nat), .int .u64 (wd (p) 4 : Nat), .int .u64 (wd (p) 5 : Nat), .int .u64 (wd (p) 6 : Nat), .int .u64 (wd (p) 7 : Nat)] 24)).heap.size (w7.alloc (.cells #[Value.int .u64 (wd (d) 0 : Nat), .int .u64 (wd (d) 1 : Nat), .int .u64 (wd (d) 2 : Nat), .int .u64 (wd (d) 3 : Nat), .int .u64 (wd (d) 4 : Nat), .int .u64 (wd (d) 5 : Nat), .int .u64 (wd (d) 6 : Nat), .int .u64 (wd (d) 7 : Nat)] 24)) xs g c) := Lib.hid (hlt.ext (x7.alloc _))
  have HX5 : Hid (Ext w (w7.alloc (.cells #[Value.int .u64 (wd (d) 0 : Nat), .int .u64 (wd (d) 1 : Nat), .int .u64 (wd (d) 2 : Nat), .int .u64 (wd (d) 3 : Nat), .int .u64 (wd (d) 4 : Nat), .int .u64 (wd (d) 5 : Nat), .int .u64 (wd (d) 6 : Nat), .int .u64 (wd (d) 7 : Nat)] 24))) := Lib.hid (((HX0.out.trans h1).trans x7).alloc _)
  have HS5 : Hid (w7.heap.size < (w7.alloc (.cells #[Value.int .u64 (wd (d) 0 : Nat), .int .u64 (wd (d) 1 : Nat), .int .u64 (wd (d) 2 : Nat), .int .u64 (wd (d) 3 : Nat), .int .u64 (wd (d) 4 : Nat), .int .u64 (wd (d) 5 : Nat), .int .u64 (wd (d) 6 : Nat), .int .u64 (wd (d) 7 : Nat)] 24)).heap.size) := by show _ < _; simp
  have HR5 := Lib.hid (HR.out.ext ((h1.trans x7).alloc (.cells #[Value.int .u64 (wd (d) 0 : Nat), .int .u64 (wd (d) 1 : Nat), .int .u64 (wd (d) 2 : Nat), .int .u64 (wd (d) 3 : Nat), .int .u64 (wd (d) 4 : Nat), .int .u64 (wd (d) 5 : Nat), .int .u64 (wd (d) 6 : Nat), .int .u64 (wd (d) 7 : Nat)] 24)))
  clear hlt h1 h2 h3 h4 h5 h6 h7 x7 HR HX0
  generalize w7.alloc (.cells #[Value.int .u64 (wd (d) 0 : Nat), .int .u64 (wd (d) 1 : Nat), .int .u64 (wd (d) 2 : Nat), .int .u64 (wd (d) 3 : Nat), .int .u64 (wd (d) 4 : Nat), .int .u64 (wd (d) 5 : Nat), .int .u64 (wd (d) 6 : Nat), .int .u64 (wd (d) 7 : Nat)] 24) = W at *
  have hb7 := HS5.out
  have hb1 : w.heap.size < W.heap.size := by omega
  have hb2 : w2.heap.size < W.heap.size := by omega
  have hb3 : w3.heap.size < W.heap.size := by omega
  have hb4 : w4.heap.size < W.heap.size := by omega
  have hb5 : w5.heap.size < W.heap.size := by omega
  have hb6 : w6.heap.size < W.heap.size := by omega
  have hX5 := HX5.out
  have H__ := HB5.out
  have ya0 := (H__ 0 (by omega)).1
  have ya1 := (H__ 1 (by omega)).1
  have ya2 := (H__ 2 (by omega)).1
  have ya3 := (H__ 3 (by omega)).1
  have ya4 := (H__ 4 (by omega)).1
  have ya5 := (H__ 5 (by omega)).1
  have ya6 := (H__ 6 (by omega)).1
  have ya7 := (H__ 7 (by omega)).1
  clear H__
  have H__ := H2.out
  have yb0 := (H__ 0 (by omega)).1
  have yb1 := (H__ 1 (by omega)).1
  have yb2 := (H__ 2 (by omega)).1
  have yb3 := (H__ 3 (by omega)).1
  have yb4 := (H__ 4 (by omega)).1
  have yb5 := (H__ 5 (by omega)).1
  have yb6 := (H__ 6 (by omega)).1
  have yb7 := (H__ 7 (by omega)).1
  clear H__
  have H__ := H3.out
  have yc0 := (H__ 0 (by omega)).1
  have yc1 := (H__ 1 (by omega)).1
  have yc2 := (H__ 2 (by omega)).1
  have yc3 := (H__ 3 (by omega)).1
  have yc4 := (H__ 4 (by omega)).1
  have yc5 := (H__ 5 (by omega)).1
  have yc6 := (H__ 6 (by omega)).1
  have yc7 := (H__ 7 (by omega)).1
  clear H__
  have H__ := H4.out
  have yd0 := (H__ 0 (by omega)).1
  have yd1 := (H__ 1 (by omega)).1
  have yd2 := (H__ 2 (by omega)).1
  have yd3 := (H__ 3 (by omega)).1
  have yd4 := (H__ 4 (by omega)).1
  have yd5 := (H__ 5 (by omega)).1
  have yd6 := (H__ 6 (by omega)).1
  have yd7 := (H__ 7 (by omega)).1
  clear H__
  have H__ := H5.out
  have yf0 := (H__ 0 (by omega)).1
  have yf1 := (H__ 1 (by omega)).1
  have yf2 := (H__ 2 (by omega)).1
  have yf3 := (H__ 3 (by omega)).1
  have yf4 := (H__ 4 (by omega)).1
  have yf5 := (H__ 5 (by omega)).1
  have yf6 := (H__ 6 (by omega)).1
  have yf7 := (H__ 7 (by omega)).1
  clear H__
  have H__ := H6.out
  have yg0 := (H__ 0 (by omega)).1
  have yg1 := (H__ 1 (by omega)).1
  have yg2 := (H__ 2 (by omega)).1
  have yg3 := (H__ 3 (by omega)).1
  have yg4 := (H__ 4 (by omega)).1
  have yg5 := (H__ 5 (by omega)).1
  have yg6 := (H__ 6 (by omega)).1
  have yg7 := (H__ 7 (by omega)).1
  clear H__
  have H__ := H7.out
  have yh0 := (H__ 0 (by omega)).1
  have yh1 := (H__ 1 (by omega)).1
  have yh2 := (H__ 2 (by omega)).1
  have yh3 := (H__ 3 (by omega)).1
  have yh4 := (H__ 4 (by omega)).1
  have yh5 := (H__ 5 (by omega)).1
  have yh6 := (H__ 6 (by omega)).1
  have yh7 := (H__ 7 (by omega)).1
  clear H__
  clear g1 g2 g3 g4 g5 g6 g7
  go_region_held3 (fun w' => (∀ b o, b < W.heap.size → w'.cell? ⟨b, o, none⟩ = W.cell? ⟨b, o, none⟩) ∧ Ext W w' ∧ w.heap.size < w'.heap.size) (refine ⟨Ext.cells ?_, ?_, Nat.lt_of_lt_of_le hb1 (Ext.le ?_)⟩ <;> ((repeat (first | assumption | exact Ext.refl _ | apply Ext.alloc | apply Ext.drew | apply Ext.drewN | refine Ext.trans ?_ (by assumption))))) (first
    | (go_at_call 21; (with_reducible refine (num_calls _ _).mono ?_); rintro e w' ⟨rfl, hw⟩; obtain rfl := hw.symm)
    | ((go_at_call 22; (with_reducible refine (Has_calls p x _).mono ?_); rintro e w8 ⟨rfl, h8⟩); (try replace h8 := Ext.undrew h8))
    | ((go_at_call 23; (with_reducible refine (rHas_calls p x _).mono ?_); rintro e w8 ⟨rfl, h8⟩); (try replace h8 := Ext.undrew h8)))
  rename_i hHz
  obtain ⟨hz1, hz2, hz3⟩ := hHz
  have hll := numsB_len p 512
  have HLC := Lib.hid (List_calls p)
  have HLR := Lib.hid (rList_calls p)
  generalize numsB p 512 = L at *
  go_wp2_with (first
    | (have hz9__ := ho9; (go_at_call 24; (with_reducible refine (HLC.out _ (HT.out.ext (by (repeat (first | assumption | exact Ext.refl _ | apply Ext.alloc | apply Ext.drew | apply Ext.drewN | refine Ext.trans ?_ (by assumption)))))).mono ?_); rintro e w10 ⟨v10, rfl, ho10, h10⟩); (obtain ⟨A10, c10, rfl, h101, h102⟩ := ho10.shape); have := (h10).cells; have := (h10).frozens; have : w.heap.size < w10.heap.size := Nat.lt_of_lt_of_le (by first | assumption | (simp; done) | (simp; omega)) (h10).le)
    | ((go_at_call 24; (with_reducible refine (HLC.out _ (HT.out.ext (by (repeat (first | assumption | exact Ext.refl _ | apply Ext.alloc | apply Ext.drew | apply Ext.drewN | refine Ext.trans ?_ (by assumption)))))).mono ?_); rintro e w9 ⟨v9, rfl, ho9, h9⟩); (obtain ⟨A9, c9, rfl, h91, h92⟩ := ho9.shape); have := (h9).cells; have := (h9).frozens; have : w.heap.size < w9.heap.size := Nat.lt_of_lt_of_le (by first | assumption | (simp; done) | (simp; omega)) (h9).le)
    | ((go_at_call 25; (with_reducible refine (HLR.out _).mono ?_); rintro e w11 ⟨v11, rfl, ho11, h11⟩); (obtain ⟨A11, c11, rfl, h111, h112⟩ := ho11.shape)))
  have y9 : Ext W w9 := by (repeat (first | assumption | exact Ext.refl _ | apply Ext.alloc | apply Ext.drew | apply Ext.drewN | refine Ext.trans ?_ (by assumption)))
  have y11 : Ext W w11 := by (repeat (first | assumption | exact Ext.refl _ | apply Ext.alloc | apply Ext.drew | apply Ext.drewN | refine Ext.trans ?_ (by assumption)))
  have b9 := y9.le
  have b10 := h10.le
  have b11 := h11.le
  have b8 := (by (repeat (first | assumption | exact Ext.refl _ | apply Ext.alloc | apply Ext.drew | apply Ext.drewN | refine Ext.trans ?_ (by assumption))) : Ext w W).le
  have HD : Hid (∀ k, (Value.slice A9 L.length c9).ownBlock = some k → (Value.slice A10 L.length c10).ownBlock ≠ some k) := fun k hk hk' => by
    have := (ho9.block k hk).2
    have := (ho10.block k hk').1
    omega
  have p9 := (ho9.ext (h10.trans h11)).rebase (base' := w.heap.size) (fun k hk => by have := ho9.lo k hk; omega)
  have p10 := (ho10.ext h11).rebase (base' := w.heap.size) (fun k hk => by have := ho10.lo k hk; omega)
  have p11 := ho11.rd
  have HL11 := Lib.hid (HLT.out.ext y11)
  have HR11 := Lib.hid (HR5.out.ext y11)
  have hw11 : w.heap.size ≤ w11.heap.size := by omega
  clear ho9 ho10 ho11 h9 h10 h11
  go_wp2_with (first
    | (have hz12__ := h12; (go_at_call 26; (with_reducible refine (sameInts_calls L _ _ _ (p10.rd.ext (by (repeat (first | assumption | exact Ext.refl _ | apply Ext.alloc | apply Ext.drew | apply Ext.drewN | refine Ext.trans ?_ (by assumption))))) (p11.ext (by (repeat (first | assumption | exact Ext.refl _ | apply Ext.alloc | apply Ext.drew | apply Ext.drewN | refine Ext.trans ?_ (by assumption)))))).mono ?_); rintro e w13 ⟨rfl, h13⟩))
    | ((go_at_call 26; (with_reducible refine (sameInts_calls L _ _ _ p9.rd p11).mono ?_); rintro e w12 ⟨rfl, h12⟩))
    | ((go_at_call 27; (with_reducible refine (stayInts_calls xs g c _ _ _ (HL11.out.ext (by (repeat (first | assumption | exact Ext.refl _ | apply Ext.alloc | apply Ext.drew | apply Ext.drewN | refine Ext.trans ?_ (by assumption))))) (HR11.out.ext (by (repeat (first | assumption | exact Ext.refl _ | apply Ext.alloc | apply Ext.drew | apply Ext.drewN | refine Ext.trans ?_ (by assumption))))) hl).mono ?_); rintro e w14 ⟨rfl, h14⟩); have q14 : Ext w11 w14 := (by (repeat (first | assumption | exact Ext.refl _ | apply Ext.alloc | apply Ext.drew | apply Ext.drewN | refine Ext.trans ?_ (by assumption)))); have q14l := q14.le)
    | ((go_at_call 28; (with_reducible refine (apartInts_calls [L, L] _ w.heap.size _ (Own2.two (p9.ext q14) (p10.ext q14) HD.out (by omega)) (by simp; omega) (by simp) (by simp; omega)).mono ?_); rintro e w15 ⟨rfl, h15⟩))
    | ((go_at_call 11; (with_reducible refine (live_calls _).mono ?_); rintro e w16 ⟨rfl, h16⟩)))
  go_ret
  have z14 : Ext w w14 := by (repeat (first | assumption | exact Ext.refl _ | apply Ext.alloc | apply Ext.drew | apply Ext.drewN | refine Ext.trans ?_ (by assumption)))
  exact ⟨rfl, Ext.trans (show Ext w w15 from Below.trans (z14.alloc _) h15) h16⟩
end Go.Proofs.YtbmnjnmpjpdcmaaDoor
