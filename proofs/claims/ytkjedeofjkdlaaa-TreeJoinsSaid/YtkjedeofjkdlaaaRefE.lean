/- Walks of the reference of chapter 3: turned, Reverse, Rename. Conditions: what slices read as. -/
import Derived.Test.YtkjedeofjkdlaaaRefB
import Derived.Test.YtkjedeofjkdlaaaTreeG
import Derived.Test.YtkjedeofjkdlaaaTreeH
import Derived.Deep.RegionHeld3
import Derived.Deep.DeepMust
namespace Go.Proofs.Ytkjedeofjkdlaaa
open Go.RowKit Go.Eg

def Turns (x : T) : Prop := ∀ (t : List Nd) (v : Value) (w : World), t = x.flat → t.length ≤ 4000 → Rd tyNd w t v →
    Calls Try.prog 51 #[v] w (MadePost x.rev.flat w)

set_option maxHeartbeats 1000000 in
set_option maxRecDepth 100000 in
theorem turned_leaf (n : Nd) (hx : (T.leaf n).wf) : Turns (.leaf n) := by
  intro t v w ht hlen hr
  obtain ⟨A, c, rfl, hlc, hcm⟩ := hr.shape
  unfold maxLen at hcm
  have hl1 : t.length = 1 := by rw [ht]; rfl
  have hroot : nth t 0 = n := by rw [ht]; rfl
  have hby := Lib.hid (rd_byte hr (i := 0) (by omega))
  obtain ⟨bb, off, rfl, hbl, hc0, hc1⟩ := rd_node hr (i := 0) (by omega)
  rw [hroot] at hc0 hc1 hby
  have HT := Lib.hid ht
  clear hroot ht
  rw [hl1] at hr hlc
  rw [hl1]
  simp only [Nat.zero_mul, Nat.add_zero] at hc0 hc1
  clear hl1
  go_enter Try.func51, Try.ntmps51
  go_wp2_with (first | ((go_at_call 40; (with_reducible refine (rCut_calls (.leaf n) hx t HT.out (by omega) _ Any _ hr.sl).mono ?_); rintro e w1 ⟨v1, rfl, hs1, h1⟩); obtain ⟨A1, c1, rfl, h11, h12⟩ := hs1.any.shape; simp only [T.kids, List.map_nil, List.length_nil]; have := (h1).cells; have := (h1).frozens; have : bb < w1.heap.size := Nat.lt_of_lt_of_le (by first | assumption | (simp; done) | (simp; omega)) (h1).le) | ((go_at_call 45; (with_reducible refine (rMade_calls n hby.out [] (by simp) _ _ (Rd.nil _ _) (by simp)).mono ?_); rintro e w2 ⟨v2, rfl, ho2, h2⟩)))
  go_ret
  exact ⟨v2, rfl, ho2.rebase (fun k hk => by have := ho2.lo k hk; have := h1.le; simp at *; omega), by (repeat (first | assumption | exact Ext.refl _ | apply Ext.alloc | apply Ext.drew | apply Ext.drewN | refine Ext.trans ?_ (by assumption)))⟩

theorem any_here (n : Nat) : Any n := trivial
theorem made_len1 (a : T) (h : a.flat.length ≤ 4000) : [a.rev.flat].flatten.length ≤ 100000 := by rw [List.flatten_singleton, T.rev_len]; omega
theorem made_len2 (a b : T) (h : a.flat.length ≤ 4000) (h' : b.flat.length ≤ 4000) : [a.rev.flat, b.rev.flat].flatten.length ≤ 100000 := by
  simp only [List.flatten_cons, List.flatten_nil, List.append_nil, List.length_append, T.rev_len]; omega

set_option maxHeartbeats 1000000 in
set_option maxRecDepth 100000 in
theorem turned_un (n : Nd) (a : T) (hx : (T.un n a).wf) (ih : Turns a) : Turns (.un n a) := by
  intro t v w ht hlen hr
  obtain ⟨A, c, rfl, hlc, hcm⟩ := hr.shape
  unfold maxLen at hcm
  have hfl : t.length = a.flat.length + 1 := by rw [ht]; simp [T.flat]
  have hroot : nth t (t.length - 1) = n := by rw [ht, T.nth_root]; rfl
  have hby := Lib.hid (rd_byte hr (i := t.length - 1) (by omega))
  obtain ⟨bb, off, rfl, hbl, hc0, hc1⟩ := rd_node hr (i := t.length - 1) (by omega)
  rw [hroot] at hc0 hc1 hby
  have HT := Lib.hid ht
  have HFL : Hid (t.length = a.flat.length + 1) := hfl
  have HREV : Hid ([a.rev.flat].flatten ++ [n] = (T.un n a).rev.flat) := by show _ = _; simp [T.rev, T.flat]
  have HRL := Lib.hid (T.rev_len a)
  clear hroot ht
  have hl0 : (0 : Int) ≤ (t.length : Int) - 1 := by omega
  have hl1 : (t.length : Int) - 1 < t.length := by omega
  have hl2 : ((t.length : Int) - 1).toNat = t.length - 1 := by omega
  have hw : IntKind.i64.wrap ((t.length : Int) - 1) = (t.length : Int) - 1 := IntWalk.i64_in _ (by omega)
  have ih' : ∀ (u : Value) (w : World), Rd tyNd w a.flat u → Calls Try.prog 51 #[u] w (MadePost a.rev.flat w) := fun u w h => ih a.flat u w rfl (by omega) h
  have hal : a.flat.length ≤ 4000 := by omega
  clear hfl
  go_enter Try.func51, Try.ntmps51
  go_wp2_with (first | ((go_at_call 40; (with_reducible refine (rCut_calls (.un n a) hx t HT.out (by omega) _ Any _ hr.sl).mono ?_); rintro e w1 ⟨v1, rfl, hs1, h1⟩); simp only [T.kids, List.map_cons, List.map_nil] at hs1; obtain ⟨A1, c1, rfl, -, -⟩ := hs1.any.shape; obtain ⟨b1, o1, u1, rfl, hb1, hcell1, hu1⟩ := hs1.any.slices (i := 0) rfl; clear hs1; have := (h1).cells; have := (h1).frozens; have : bb < w1.heap.size := Nat.lt_of_lt_of_le (by first | assumption | (simp; done) | (simp; omega)) (h1).le))
  have hb1a : b1 < w1.heap.size + 1 := Nat.lt_succ_of_lt hb1
  have hb1b : b1 ≠ w1.heap.size := Nat.ne_of_lt hb1
  have hb1c : ∀ o : Obj, (w1.alloc o).cell? ⟨b1, o1 + 0, none⟩ = some u1 := fun o => (((Ext.refl w1).alloc o).cells b1 (o1 + 0) hb1).trans hcell1
  simp only [Nat.add_zero] at hb1c hcell1
  go_region_with (first | ((go_at_call 51; (with_reducible refine (ih' _ _ (hu1.ext (by (repeat (first | assumption | exact Ext.refl _ | apply Ext.alloc | apply Ext.drew | apply Ext.drewN | refine Ext.trans ?_ (by assumption)))))).mono ?_); rintro e w2 ⟨v2, rfl, ho2, h2⟩); replace h2 := Ext.undrew h2; obtain ⟨A2, c2, rfl, -, -⟩ := ho2.shape; have := (h2).cells; have := (h2).frozens; have : b1 < w2.heap.size := Nat.lt_of_lt_of_le (by first | assumption | (simp; done) | (simp; omega)) (h2).le; have : w1.heap.size < w2.heap.size := Nat.lt_of_lt_of_le (by first | assumption | (simp; done) | (simp; omega)) (h2).le) | (go_at_call 45; go_must ((with_reducible refine (rMade_calls n hby.out [a.rev.flat] (made_len1 a hal) _ _ (SlP.lit1 (any_here _) ho2.rd.sl).any (by simp)).mono ?_); rintro e w3 ⟨v3, rfl, ho3, h3⟩; have := (h3).cells; have := (h3).frozens; have : b1 < w3.heap.size := Nat.lt_of_lt_of_le (by first | assumption | (simp; done) | (simp; omega)) (h3).le; have : w1.heap.size < w3.heap.size := Nat.lt_of_lt_of_le (by first | assumption | (simp; done) | (simp; omega)) (h3).le)))
  all_goals
    go_wp2_with fail
    go_ret
    exact ⟨v3, rfl, by rw [← HREV.out]; exact ho3.rebase (fun k hk => by have := ho3.lo k hk; have := h1.le; have := h2.le; simp at *; omega), by (repeat (first | assumption | exact Ext.refl _ | apply Ext.alloc | apply Ext.drew | apply Ext.drewN | refine Ext.trans ?_ (by assumption)))⟩

set_option maxHeartbeats 1000000 in
set_option maxRecDepth 100000 in
theorem turned_cat (n : Nd) (a b : T) (hk : n.k = 7) (hx : (T.bin n a b).wf) (iha : Turns a) (ihb : Turns b) : Turns (.bin n a b) := by
  intro t v w ht hlen hr
  obtain ⟨A, c, rfl, hlc, hcm⟩ := hr.shape
  unfold maxLen at hcm
  have hfl : t.length = a.flat.length + b.flat.length + 1 := by rw [ht]; simp [T.flat]; omega
  have hroot : nth t (t.length - 1) = n := by rw [ht, T.nth_root]; rfl
  have hby := Lib.hid (rd_byte hr (i := t.length - 1) (by omega))
  obtain ⟨bb, off, rfl, hbl, hc0, hc1⟩ := rd_node hr (i := t.length - 1) (by omega)
  rw [hroot] at hc0 hc1 hby
  have HT := Lib.hid ht
  have HREV : Hid ([b.rev.flat, a.rev.flat].flatten ++ [n] = (T.bin n a b).rev.flat) := by show _ = _; simp [T.rev, T.flat, hk]
  clear hroot ht
  have hl0 : (0 : Int) ≤ (t.length : Int) - 1 := by omega
  have hl1 : (t.length : Int) - 1 < t.length := by omega
  have hl2 : ((t.length : Int) - 1).toNat = t.length - 1 := by omega
  have hw : IntKind.i64.wrap ((t.length : Int) - 1) = (t.length : Int) - 1 := IntWalk.i64_in _ (by omega)
  have iha' : ∀ (u : Value) (w : World), Rd tyNd w a.flat u → Calls Try.prog 51 #[u] w (MadePost a.rev.flat w) := fun u w h => iha a.flat u w rfl (by omega) h
  have ihb' : ∀ (u : Value) (w : World), Rd tyNd w b.flat u → Calls Try.prog 51 #[u] w (MadePost b.rev.flat w) := fun u w h => ihb b.flat u w rfl (by omega) h
  have hal : a.flat.length ≤ 4000 := by omega
  have hbl' : b.flat.length ≤ 4000 := by omega
  have hk' : (n.k == 7) = true := by simpa using hk
  clear hfl hk
  go_enter Try.func51, Try.ntmps51
  go_wp2_with (first | ((go_at_call 40; (with_reducible refine (rCut_calls (.bin n a b) hx t HT.out (by omega) _ Any _ hr.sl).mono ?_); rintro e w1 ⟨v1, rfl, hs1, h1⟩); simp only [T.kids, List.map_cons, List.map_nil] at hs1; obtain ⟨A1, c1, rfl, -, -⟩ := hs1.any.shape; obtain ⟨b1, o1, u1, rfl, hb1, hcell1, hu1⟩ := hs1.any.slices (i := 0) rfl; obtain ⟨b2, o2, u2, e2, hb2, hcell2, hu2⟩ := hs1.any.slices (i := 1) rfl; cases e2; clear hs1; simp only [Nat.add_zero] at hcell1; have hb1a : b1 < w1.heap.size + 1 := Nat.lt_succ_of_lt hb1; have hb1b : b1 ≠ w1.heap.size := Nat.ne_of_lt hb1; have hb1c : ∀ o : Obj, (w1.alloc o).cell? ⟨b1, o1, none⟩ = some u1 := fun o => (((Ext.refl w1).alloc o).cells b1 o1 hb1).trans hcell1; have hb1d : ∀ o : Obj, (w1.alloc o).cell? ⟨b1, o1 + 1, none⟩ = some u2 := fun o => (((Ext.refl w1).alloc o).cells b1 (o1 + 1) hb1).trans hcell2; have := (h1).cells; have := (h1).frozens; have : bb < w1.heap.size := Nat.lt_of_lt_of_le (by first | assumption | (simp; done) | (simp; omega)) (h1).le) | ((go_at_call 51; (with_reducible refine (iha' _ _ (hu1.ext (by (repeat (first | assumption | exact Ext.refl _ | apply Ext.alloc | apply Ext.drew | apply Ext.drewN | refine Ext.trans ?_ (by assumption)))))).mono ?_); rintro e w2 ⟨v2, rfl, ho2, h2⟩); obtain ⟨A2, c2, rfl, -, -⟩ := ho2.shape; have := (h2).cells; have := (h2).frozens; have : b1 < w2.heap.size := Nat.lt_of_lt_of_le (by first | assumption | (simp; done) | (simp; omega)) (h2).le; have : w1.heap.size < w2.heap.size := Nat.lt_of_lt_of_le (by first | assumption | (simp; done) | (simp; omega)) (h2).le) | ((go_at_call 51; (with_reducible refine (ihb' _ _ (hu2.ext (by (repeat (first | assumption | exact Ext.refl _ | apply Ext.alloc | apply Ext.drew | apply Ext.drewN | refine Ext.trans ?_ (by assumption)))))).mono ?_); rintro e w3 ⟨v3, rfl, ho3, h3⟩); obtain ⟨A3, c3, rfl, -, -⟩ := ho3.shape; have := (h3).cells; have := (h3).frozens; have : b1 < w3.heap.size := Nat.lt_of_lt_of_le (by first | assumption | (simp; done) | (simp; omega)) (h3).le; have : w1.heap.size < w3.heap.size := Nat.lt_of_lt_of_le (by first | assumption | (simp; done) | (simp; omega)) (h3).le; replace ho2 := ho2.ext h3) | (go_at_call 45; (with_reducible refine (rMade_calls n hby.out [b.rev.flat, a.rev.flat] (made_len2 b a (by assumption) (by assumption)) _ _ (SlP.lit2 (any_here _) ho3.rd.sl ho2.rd.sl).any (by simp)).mono ?_); rintro e w4 ⟨v4, rfl, ho4, h4⟩))
  go_ret
  exact ⟨v4, rfl, by rw [← HREV.out]; exact ho4.rebase (fun k hk => by have := ho4.lo k hk; have := h1.le; have := h2.le; have := h3.le; simp at *; omega), by (repeat (first | assumption | exact Ext.refl _ | apply Ext.alloc | apply Ext.drew | apply Ext.drewN | refine Ext.trans ?_ (by assumption)))⟩

set_option maxHeartbeats 1000000 in
set_option maxRecDepth 100000 in
theorem turned_bin (n : Nd) (a b : T) (hk : ¬ n.k = 7) (hx : (T.bin n a b).wf) (iha : Turns a) (ihb : Turns b) : Turns (.bin n a b) := by
  intro t v w ht hlen hr
  obtain ⟨A, c, rfl, hlc, hcm⟩ := hr.shape
  unfold maxLen at hcm
  have hfl : t.length = a.flat.length + b.flat.length + 1 := by rw [ht]; simp [T.flat]; omega
  have hroot : nth t (t.length - 1) = n := by rw [ht, T.nth_root]; rfl
  have hby := Lib.hid (rd_byte hr (i := t.length - 1) (by omega))
  obtain ⟨bb, off, rfl, hbl, hc0, hc1⟩ := rd_node hr (i := t.length - 1) (by omega)
  rw [hroot] at hc0 hc1 hby
  have HT := Lib.hid ht
  have HREV : Hid ([a.rev.flat, b.rev.flat].flatten ++ [n] = (T.bin n a b).rev.flat) := by show _ = _; simp [T.rev, T.flat, hk]
  clear hroot ht
  have hl0 : (0 : Int) ≤ (t.length : Int) - 1 := by omega
  have hl1 : (t.length : Int) - 1 < t.length := by omega
  have hl2 : ((t.length : Int) - 1).toNat = t.length - 1 := by omega
  have hw : IntKind.i64.wrap ((t.length : Int) - 1) = (t.length : Int) - 1 := IntWalk.i64_in _ (by omega)
  have iha' : ∀ (u : Value) (w : World), Rd tyNd w a.flat u → Calls Try.prog 51 #[u] w (MadePost a.rev.flat w) := fun u w h => iha a.flat u w rfl (by omega) h
  have ihb' : ∀ (u : Value) (w : World), Rd tyNd w b.flat u → Calls Try.prog 51 #[u] w (MadePost b.rev.flat w) := fun u w h => ihb b.flat u w rfl (by omega) h
  have hal : a.flat.length ≤ 4000 := by omega
  have hbl' : b.flat.length ≤ 4000 := by omega
  have hk' : (n.k == 7) = false := by simpa using hk
  clear hfl hk
  go_enter Try.func51, Try.ntmps51
  go_wp2_with (first | ((go_at_call 40; (with_reducible refine (rCut_calls (.bin n a b) hx t HT.out (by omega) _ Any _ hr.sl).mono ?_); rintro e w1 ⟨v1, rfl, hs1, h1⟩); simp only [T.kids, List.map_cons, List.map_nil] at hs1; obtain ⟨A1, c1, rfl, -, -⟩ := hs1.any.shape; obtain ⟨b1, o1, u1, rfl, hb1, hcell1, hu1⟩ := hs1.any.slices (i := 0) rfl; obtain ⟨b2, o2, u2, e2, hb2, hcell2, hu2⟩ := hs1.any.slices (i := 1) rfl; cases e2; clear hs1; simp only [Nat.add_zero] at hcell1; have hb1a : b1 < w1.heap.size + 1 := Nat.lt_succ_of_lt hb1; have hb1b : b1 ≠ w1.heap.size := Nat.ne_of_lt hb1; have hb1c : ∀ o : Obj, (w1.alloc o).cell? ⟨b1, o1, none⟩ = some u1 := fun o => (((Ext.refl w1).alloc o).cells b1 o1 hb1).trans hcell1; have hb1d : ∀ o : Obj, (w1.alloc o).cell? ⟨b1, o1 + 1, none⟩ = some u2 := fun o => (((Ext.refl w1).alloc o).cells b1 (o1 + 1) hb1).trans hcell2; have := (h1).cells; have := (h1).frozens; have : bb < w1.heap.size := Nat.lt_of_lt_of_le (by first | assumption | (simp; done) | (simp; omega)) (h1).le) | ((go_at_call 51; (with_reducible refine (iha' _ _ (hu1.ext (by (repeat (first | assumption | exact Ext.refl _ | apply Ext.alloc | apply Ext.drew | apply Ext.drewN | refine Ext.trans ?_ (by assumption)))))).mono ?_); rintro e w2 ⟨v2, rfl, ho2, h2⟩); obtain ⟨A2, c2, rfl, -, -⟩ := ho2.shape; have := (h2).cells; have := (h2).frozens; have : b1 < w2.heap.size := Nat.lt_of_lt_of_le (by first | assumption | (simp; done) | (simp; omega)) (h2).le; have : w1.heap.size < w2.heap.size := Nat.lt_of_lt_of_le (by first | assumption | (simp; done) | (simp; omega)) (h2).le) | ((go_at_call 51; (with_reducible refine (ihb' _ _ (hu2.ext (by (repeat (first | assumption | exact Ext.refl _ | apply Ext.alloc | apply Ext.drew | apply Ext.drewN | refine Ext.trans ?_ (by assumption)))))).mono ?_); rintro e w3 ⟨v3, rfl, ho3, h3⟩); obtain ⟨A3, c3, rfl, -, -⟩ := ho3.shape; have := (h3).cells; have := (h3).frozens; have : b1 < w3.heap.size := Nat.lt_of_lt_of_le (by first | assumption | (simp; done) | (simp; omega)) (h3).le; have : w1.heap.size < w3.heap.size := Nat.lt_of_lt_of_le (by first | assumption | (simp; done) | (simp; omega)) (h3).le; replace ho2 := ho2.ext h3) | (go_at_call 45; (with_reducible refine (rMade_calls n hby.out [a.rev.flat, b.rev.flat] (made_len2 a b (by assumption) (by assumption)) _ _ (SlP.lit2 (any_here _) ho2.rd.sl ho3.rd.sl).any (by simp)).mono ?_); rintro e w4 ⟨v4, rfl, ho4, h4⟩))
  go_ret
  exact ⟨v4, rfl, by rw [← HREV.out]; exact ho4.rebase (fun k hk => by have := ho4.lo k hk; have := h1.le; have := h2.le; have := h3.le; simp at *; omega), by (repeat (first | assumption | exact Ext.refl _ | apply Ext.alloc | apply Ext.drew | apply Ext.drewN | refine Ext.trans ?_ (by assumption)))⟩

theorem turned_calls : ∀ (x : T), x.wf → Turns x
  | .leaf n, h => turned_leaf n h
  | .un n a, h => turned_un n a h (turned_calls a h.2.2)
  | .bin n a b, h => by
    by_cases hk : n.k = 7
    · exact turned_cat n a b hk h (turned_calls a h.2.2.1) (turned_calls b h.2.2.2)
    · exact turned_bin n a b hk h (turned_calls a h.2.2.1) (turned_calls b h.2.2.2)
end Go.Proofs.Ytkjedeofjkdlaaa
