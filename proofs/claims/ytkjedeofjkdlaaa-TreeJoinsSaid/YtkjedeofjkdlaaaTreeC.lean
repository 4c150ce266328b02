/- Walks of package tree: Parts. Conditions: what a slice reads as; a length that memory bears. -/
import Derived.Test.YtkjedeofjkdlaaaTreeB
import Derived.Deep.RegionWith
namespace Go.Proofs.Ytkjedeofjkdlaaa
open Go.RowKit Go.Eg

set_option maxHeartbeats 400000 in
theorem Parts_err (t : List Nd) (v : Value) (w : World) (hr : Rd tyNd w t v) (h : errW t ≠ 0) :
    Calls Try.prog 12 #[v] w fun e w' => e = .returned (.tuple #[.agg #[.int .i64 0, .int .u8 0], .slice none 0 0, .int .i64 (errW t)]) ∧ Ext w w' := by
  have h' : (errW t != 0) = true := by simp [h]
  go_enter Try.func12, Try.ntmps12
  go_wp2_with ((go_at_call 35; (with_reducible refine (wrong_calls t _ _ (hr.ext ((Ext.refl _).alloc _))).mono ?_); rintro e w1 ⟨rfl, h1⟩); have h1c := h1.cells; have h1f := h1.frozens)
  exact bodyPost_ret (v := .tuple #[.agg #[.int .i64 0, .int .u8 0], .slice none 0 0, .int .i64 (errW t)]) (by simp [results, Try.results12, go_sem, h1c]) rfl ⟨rfl, (((Ext.refl _).alloc _).trans h1).set (Nat.le_refl _) _ |>.set (Nat.le_refl _) _⟩

/-- What Parts comes to, of a tree. -/
def PartsPost (x : T) (w : World) (e : Ending) (w' : World) : Prop :=
  ∃ v', e = .returned (.tuple #[.agg #[.int .i64 x.root.k, .int .u8 x.root.s], v', .int .i64 0]) ∧ Own2 tyNd 22 25 w.heap.size w' (x.kids.map T.flat) v' ∧ Ext w w'

set_option maxHeartbeats 400000 in
theorem Parts_bin (n : Nd) (a b : T) (hx : (T.bin n a b).wf) (t : List Nd) (ht : t = (T.bin n a b).flat) (hlen : t.length ≤ 4000) (v : Value) (w : World) (hr : Rd tyNd w t v) :
    Calls Try.prog 12 #[v] w (PartsPost (.bin n a b) w) := by
  have h0 : errW t = 0 := by rw [ht]; exact errW_flat hx (by rw [← ht]; exact hlen)
  obtain ⟨A, c, rfl, hlc, hcm⟩ := hr.shape
  unfold maxLen at hcm
  have hpos : 0 < t.length := by rw [ht]; exact T.flat_pos _
  have hroot : nth t (t.length - 1) = n := by rw [ht, T.nth_root]; rfl
  have hn := (T.wf_root hx)
  obtain ⟨bb, off, rfl, hbl, hc0, hc1⟩ := rd_node hr (i := t.length - 1) (by omega)
  rw [hroot] at hc0 hc1
  have ha2 := Lib.hid hx.2.1
  have hwb := hx.2.2.2
  have hlt : t.length = a.flat.length + b.flat.length + 1 := by rw [ht]; simp [T.flat]; omega
  have hpa := a.flat_pos
  have hpb := b.flat_pos
  have HT : Hid (t = a.flat ++ b.flat ++ [n]) := ht
  clear hx hroot hn ht
  go_enter Try.func12, Try.ntmps12
  have HL := Lib.hid hlt
  have hl1 : (t.length : Int) - 1 - 1 = ((a.flat.length + b.flat.length - 1 : Nat) : Int) := by omega
  have hl2 : a.flat.length < t.length := by omega
  have hl3 : a.flat.length < c := by omega
  clear hlt
  go_wp2_with (first | ((go_at_call 35; (with_reducible refine (wrong_calls t _ _ (hr.ext ((Ext.refl _).alloc _))).mono ?_); rintro e w1 ⟨rfl, h1⟩); rw [h0]; have := (h1).cells; have := (h1).frozens; have : w.heap.size < w1.heap.size := Nat.lt_of_lt_of_le (by first | assumption | (simp; done) | (simp; omega)) (h1).le; have : bb < w1.heap.size := Nat.lt_of_lt_of_le (by first | assumption | (simp; done) | (simp; omega)) (h1).le) | ((go_at_call 36; (with_reducible refine (parts_calls _ _).mono ?_); rintro e w2 ⟨rfl, h2⟩); rw [ha2.out]; have := (h2).cells; have := (h2).frozens; have : w.heap.size < w2.heap.size := Nat.lt_of_lt_of_le (by first | assumption | (simp; done) | (simp; omega)) (h2).le; have : bb < w2.heap.size := Nat.lt_of_lt_of_le (by first | assumption | (simp; done) | (simp; omega)) (h2).le) | ((go_at_call 38; (with_reducible refine (begin_calls t a.flat b [n] hwb HT.out _ rfl _ _ ((hr.ext ((Ext.refl _).alloc _)).ext (h1.trans h2)) (by omega)).mono ?_); rintro e w3 ⟨rfl, h3⟩); have := (h3).cells; have := (h3).frozens; have : w.heap.size < w3.heap.size := Nat.lt_of_lt_of_le (by first | assumption | (simp; done) | (simp; omega)) (h3).le; have : bb < w3.heap.size := Nat.lt_of_lt_of_le (by first | assumption | (simp; done) | (simp; omega)) (h3).le))
  have hR := ((hr.ext ((Ext.refl _).alloc _)).ext (h1.trans h2)).ext h3
  have hl4 : (a.flat.length : Int) ≤ t.length - 1 := by omega
  have hRa : ∀ W, Ext w3 W → Rd tyNd W a.flat (.slice (some ⟨bb, off, none⟩) a.flat.length c) := fun W h => (hR.ext h).pre a.flat.length _ (by rw [HT.out]; simp) (by omega) _ _ rfl (by omega) (by unfold maxLen; omega)
  have hRb : ∀ W, Ext w3 W → Rd tyNd W b.flat (.slice (some ⟨bb, off + a.flat.length * 2, none⟩) (t.length - 1 - a.flat.length) (c - a.flat.length)) := fun W h => (hR.ext h).sub a.flat.length b.flat.length _ (by rw [HT.out]; simp) (by omega) _ _ _ rfl (by omega) (by omega) (by unfold maxLen; omega)
  clear hr hR
  have hl5 : a.flat.length ≤ c := by omega
  have hl6 : a.flat.length ≤ t.length - 1 := by omega
  have hl7 : (1 : Int) ≤ t.length := by omega
  have hl8 : (t.length : Int) - 1 ≤ c := by omega
  have hl9 : ¬ c = a.flat.length := by omega
  go_region_with (first | ((go_at_call 37; (with_reducible refine (copied_calls a.flat _ _ (hRa _ (by (repeat (first | assumption | exact Ext.refl _ | apply Ext.alloc | apply Ext.drew | apply Ext.drewN | refine Ext.trans ?_ (by assumption))))) (by omega)).mono ?_); rintro e w4 ⟨va, rfl, hoa, h4⟩); obtain ⟨Aa, ca, rfl, ha1, ha2⟩ := hoa.shape; replace h4 := Ext.undrew h4; have := (h4).cells; have := (h4).frozens; have : w.heap.size < w4.heap.size := Nat.lt_of_lt_of_le (by first | assumption | (simp; done) | (simp; omega)) (h4).le; have : bb < w4.heap.size := Nat.lt_of_lt_of_le (by first | assumption | (simp; done) | (simp; omega)) (h4).le) | ((go_at_call 37; (with_reducible refine (copied_calls b.flat _ _ (hRb _ (by (repeat (first | assumption | exact Ext.refl _ | apply Ext.alloc | apply Ext.drew | apply Ext.drewN | refine Ext.trans ?_ (by assumption))))) (by omega)).mono ?_); rintro e w5 ⟨vb, rfl, hob, h5⟩); obtain ⟨Ab, cb, rfl, hb1, hb2⟩ := hob.shape; have := (h5).cells; have := (h5).frozens; have : w.heap.size < w5.heap.size := Nat.lt_of_lt_of_le (by first | assumption | (simp; done) | (simp; omega)) (h5).le; have : bb < w5.heap.size := Nat.lt_of_lt_of_le (by first | assumption | (simp; done) | (simp; omega)) (h5).le))
  go_wp2_with fail
  have hz4 := h4.le
  have hz5 := h5.le
  refine bodyPost_ret (v := .tuple #[.agg #[.int .i64 n.k, .int .u8 n.s], .slice (some ⟨w5.heap.size, 0, none⟩) 2 2, .int .i64 0]) (by simp [results, Try.results12, go_sem, *]) rfl ⟨_, rfl, ?_, ?_⟩
  · have hA := (((hoa.ext h5).rebase (base' := w3.heap.size) hoa.lo).set ⟨w.heap.size, 0, none⟩ (.int .i64 n.k) (by show w.heap.size < _; assumption) (fun _ h => h.elim)).set ⟨w.heap.size, 1, none⟩ (.int .u8 n.s) (by show w.heap.size < _; assumption) (fun _ h => h.elim)
    have hB := (hob.set ⟨w.heap.size, 0, none⟩ (.int .i64 n.k) (by show w.heap.size < _; assumption) (fun _ h => h.elim)).set ⟨w.heap.size, 1, none⟩ (.int .u8 n.s) (by show w.heap.size < _; assumption) (fun _ h => h.elim)
    have hsz : ((w5.setCell ⟨w.heap.size, 0, none⟩ (.int .i64 n.k)).setCell ⟨w.heap.size, 1, none⟩ (.int .u8 n.s)).heap.size = w5.heap.size := by simp
    generalize (w5.setCell ⟨w.heap.size, 0, none⟩ (.int .i64 n.k)).setCell ⟨w.heap.size, 1, none⟩ (.int .u8 n.s) = W at *
    rw [← hsz]
    have hlt3 : w.heap.size < w3.heap.size := by assumption
    refine Own2.two (hA.rebase (fun k hk => by have := hA.lo k hk; omega)) (hB.rebase (fun k hk => by have := hB.lo k hk; omega)) (fun k hk hk' => ?_) (by omega)
    have h1 := (hoa.block k hk).2
    have h2 := (hob.block k hk').1
    omega
  · have he : Ext w w5 := by (repeat (first | assumption | exact Ext.refl _ | apply Ext.alloc | apply Ext.drew | apply Ext.drewN | refine Ext.trans ?_ (by assumption)))
    exact ((he.set (Nat.le_refl _) _).set (Nat.le_refl _) _).alloc _

set_option maxHeartbeats 400000 in
theorem Parts_un (n : Nd) (a : T) (hx : (T.un n a).wf) (t : List Nd) (ht : t = (T.un n a).flat) (hlen : t.length ≤ 4000) (v : Value) (w : World) (hr : Rd tyNd w t v) :
    Calls Try.prog 12 #[v] w (PartsPost (.un n a) w) := by
  have h0 : errW t = 0 := by rw [ht]; exact errW_flat hx (by rw [← ht]; exact hlen)
  obtain ⟨A, c, rfl, hlc, hcm⟩ := hr.shape
  unfold maxLen at hcm
  have hpos : 0 < t.length := by rw [ht]; exact T.flat_pos _
  have hroot : nth t (t.length - 1) = n := by rw [ht, T.nth_root]; rfl
  obtain ⟨bb, off, rfl, hbl, hc0, hc1⟩ := rd_node hr (i := t.length - 1) (by omega)
  rw [hroot] at hc0 hc1
  have ha2 := Lib.hid hx.2.1
  have hlt : t.length = a.flat.length + 1 := by rw [ht]; simp [T.flat]
  have HT : Hid (t = a.flat ++ [n]) := ht
  clear hx hroot ht
  have HL := Lib.hid hlt
  have hal : a.flat.length ≤ 4000 := by omega
  have hRa : ∀ W, Ext w W → Rd tyNd W a.flat (.slice (some ⟨bb, off, none⟩) (t.length - 1) c) := fun W h => (hr.ext h).pre a.flat.length _ (by rw [HT.out]; simp) (by omega) _ _ (by omega) (by omega) (by unfold maxLen; omega)
  have hr' := hr
  clear hlt hr
  have hl8 : (t.length : Int) - 1 ≤ c := by omega
  go_enter Try.func12, Try.ntmps12
  go_wp2_with (first | ((go_at_call 35; (with_reducible refine (wrong_calls t _ _ (hr'.ext ((Ext.refl _).alloc _))).mono ?_); rintro e w1 ⟨rfl, h1⟩); rw [h0]; have := (h1).cells; have := (h1).frozens; have : w.heap.size < w1.heap.size := Nat.lt_of_lt_of_le (by first | assumption | (simp; done) | (simp; omega)) (h1).le; have : bb < w1.heap.size := Nat.lt_of_lt_of_le (by first | assumption | (simp; done) | (simp; omega)) (h1).le) | ((go_at_call 36; (with_reducible refine (parts_calls _ _).mono ?_); rintro e w2 ⟨rfl, h2⟩); rw [ha2.out]; have := (h2).cells; have := (h2).frozens; have : w.heap.size < w2.heap.size := Nat.lt_of_lt_of_le (by first | assumption | (simp; done) | (simp; omega)) (h2).le; have : bb < w2.heap.size := Nat.lt_of_lt_of_le (by first | assumption | (simp; done) | (simp; omega)) (h2).le) | ((go_at_call 37; (with_reducible refine (copied_calls a.flat _ _ (hRa _ (by (repeat (first | assumption | exact Ext.refl _ | apply Ext.alloc | apply Ext.drew | apply Ext.drewN | refine Ext.trans ?_ (by assumption))))) (by omega)).mono ?_); rintro e w3 ⟨va, rfl, hoa, h3⟩); obtain ⟨Aa, ca, rfl, ha1, ha2⟩ := hoa.shape; have := (h3).cells; have := (h3).frozens; have : w.heap.size < w3.heap.size := Nat.lt_of_lt_of_le (by first | assumption | (simp; done) | (simp; omega)) (h3).le; have : bb < w3.heap.size := Nat.lt_of_lt_of_le (by first | assumption | (simp; done) | (simp; omega)) (h3).le))
  refine bodyPost_ret (v := .tuple #[.agg #[.int .i64 n.k, .int .u8 n.s], .slice (some ⟨w3.heap.size, 0, none⟩) 1 1, .int .i64 0]) (by simp [results, Try.results12, go_sem, *]) rfl ⟨_, rfl, ?_, ?_⟩
  · have hz2 : w.heap.size < w2.heap.size := by assumption
    have hA := (hoa.set ⟨w.heap.size, 0, none⟩ (.int .i64 n.k) hz2 (fun _ h => h.elim)).set ⟨w.heap.size, 1, none⟩ (.int .u8 n.s) hz2 (fun _ h => h.elim)
    have hsz : ((w3.setCell ⟨w.heap.size, 0, none⟩ (.int .i64 n.k)).setCell ⟨w.heap.size, 1, none⟩ (.int .u8 n.s)).heap.size = w3.heap.size := by simp
    generalize (w3.setCell ⟨w.heap.size, 0, none⟩ (.int .i64 n.k)).setCell ⟨w.heap.size, 1, none⟩ (.int .u8 n.s) = W at *
    rw [← hsz]
    exact Own2.one (hA.rebase (fun k hk => by have := hA.lo k hk; omega)) (by have := h3.le; omega)
  · have he : Ext w w3 := by (repeat (first | assumption | exact Ext.refl _ | apply Ext.alloc | apply Ext.drew | apply Ext.drewN | refine Ext.trans ?_ (by assumption)))
    exact ((he.set (Nat.le_refl _) _).set (Nat.le_refl _) _).alloc _

set_option maxHeartbeats 400000 in
theorem Parts_leaf (n : Nd) (hx : (T.leaf n).wf) (t : List Nd) (ht : t = (T.leaf n).flat) (v : Value) (w : World) (hr : Rd tyNd w t v) :
    Calls Try.prog 12 #[v] w (PartsPost (.leaf n) w) := by
  have hlen : t.length = 1 := by rw [ht]; rfl
  have h0 : errW t = 0 := by rw [ht]; exact errW_flat hx (by rw [← ht]; omega)
  obtain ⟨A, c, rfl, hlc, hcm⟩ := hr.shape
  unfold maxLen at hcm
  have hroot : nth t 0 = n := by rw [ht]; rfl
  obtain ⟨bb, off, rfl, hbl, hc0, hc1⟩ := rd_node hr (i := 0) (by omega)
  rw [hroot] at hc0 hc1
  have ha2 := Lib.hid hx.2
  clear hx hroot ht
  rw [hlen] at hr hlc
  rw [hlen]
  simp only [Nat.zero_mul, Nat.add_zero] at hc0 hc1
  clear hlen
  go_enter Try.func12, Try.ntmps12
  go_wp2_with (first | ((go_at_call 35; (with_reducible refine (wrong_calls t _ _ (hr.ext ((Ext.refl _).alloc _))).mono ?_); rintro e w1 ⟨rfl, h1⟩); rw [h0]; have := (h1).cells; have := (h1).frozens; have : w.heap.size < w1.heap.size := Nat.lt_of_lt_of_le (by first | assumption | (simp; done) | (simp; omega)) (h1).le; have : bb < w1.heap.size := Nat.lt_of_lt_of_le (by first | assumption | (simp; done) | (simp; omega)) (h1).le) | ((go_at_call 36; (with_reducible refine (parts_calls _ _).mono ?_); rintro e w2 ⟨rfl, h2⟩); rw [ha2.out]; have := (h2).cells; have := (h2).frozens; have : w.heap.size < w2.heap.size := Nat.lt_of_lt_of_le (by first | assumption | (simp; done) | (simp; omega)) (h2).le; have : bb < w2.heap.size := Nat.lt_of_lt_of_le (by first | assumption | (simp; done) | (simp; omega)) (h2).le))
  refine bodyPost_ret (v := .tuple #[.agg #[.int .i64 n.k, .int .u8 n.s], .slice none 0 0, .int .i64 0]) (by simp [results, Try.results12, go_sem, *]) rfl ⟨_, rfl, Own2.nil _ _ _ _ _, ?_⟩
  have he : Ext w w2 := by (repeat (first | assumption | exact Ext.refl _ | apply Ext.alloc | apply Ext.drew | apply Ext.drewN | refine Ext.trans ?_ (by assumption)))
  exact (he.set (Nat.le_refl _) _).set (Nat.le_refl _) _

theorem Parts_ok (x : T) (hx : x.wf) (t : List Nd) (ht : t = x.flat) (hlen : t.length ≤ 4000) (v : Value) (w : World) (hr : Rd tyNd w t v) :
    Calls Try.prog 12 #[v] w (PartsPost x w) := by
  cases x with
  | leaf n => exact Parts_leaf n hx t ht v w hr
  | un n a => exact Parts_un n a hx t ht hlen v w hr
  | bin n a b => exact Parts_bin n a b hx t ht hlen v w hr
end Go.Proofs.Ytkjedeofjkdlaaa
