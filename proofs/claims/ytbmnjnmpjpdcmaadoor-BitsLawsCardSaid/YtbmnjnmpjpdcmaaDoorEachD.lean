/- Walks: Next of package bits. Conditions: the library's table as its initialiser lays it. -/
import Derived.Test.YtbmnjnmpjpdcmaaDoorEachA
import Derived.Test.YtbmnjnmpjpdcmaaDoorLookM
namespace Go.Proofs.YtbmnjnmpjpdcmaaDoor
open Go.RowKit Go.Eg

set_option maxHeartbeats 1000000 in
theorem nextStep_calls (b1 b2 k : Nat) (u1 u2 : Value) (w : World) (hb : b1 ≠ b2) (h1 : w.cell? ⟨b1, 0, none⟩ = some u1) (f1 : w.frozen? ⟨b1, 0, none⟩ = false) (h2 : w.cell? ⟨b2, 0, none⟩ = some u2) (f2 : w.frozen? ⟨b2, 0, none⟩ = false) :
    Calls Tryd.prog 45 #[.int .i64 (k : Int), .pointer (some ⟨b1, 0, none⟩), .pointer (some ⟨b2, 0, none⟩)] w fun e w' => e = .returned (.bool false) ∧ w'.cell? ⟨b1, 0, none⟩ = some (.int .i64 (k : Int)) ∧ w'.cell? ⟨b2, 0, none⟩ = some (.bool true) ∧ (∀ w0, Ext w0 w → w0.heap.size ≤ b1 → w0.heap.size ≤ b2 → Ext w0 w') := by
  have hb' : ¬ (b2 = b1) := fun e => hb e.symm
  go_enter Tryd.func45, Tryd.ntmps45
  go_wp2_with fail
  go_ret
  refine ⟨rfl, ?_, ?_, fun w0 h l1 l2 => (h.set l1 _).set l2 _⟩
  · rw [World.cell?_setCell_other _ _ _ _ (fun e => hb' (congrArg Addr.block e))]
    exact World.cell?_setCell_same w _ _ h1
  · refine World.cell?_setCell_same (u := u2) _ _ _ ?_
    rw [World.cell?_setCell_other _ _ _ _ (fun e => hb (congrArg Addr.block e))]
    exact h2
set_option maxHeartbeats 2000000 in
set_option maxRecDepth 100000 in
theorem each_next (p : Nat → Bool) (a b : Addr) (I J : Nat → World → Prop) (hT : ∀ i w, I i w → Tab w) (hs : ∀ i w, p i = false → I i w → I (i + 1) w)
    (hc : ∀ i w, i < 512 → p i = true → I i w → Calls Tryd.prog 45 #[.int .i64 (i : Int), .pointer (some a), .pointer (some b)] w fun e w' => e = .returned (.bool false) ∧ J i w')
    (w : World) (h0 : I 0 (w.alloc (.cells #[Value.int .u64 (wd (p) 0 : Nat), .int .u64 (wd (p) 1 : Nat), .int .u64 (wd (p) 2 : Nat), .int .u64 (wd (p) 3 : Nat), .int .u64 (wd (p) 4 : Nat), .int .u64 (wd (p) 5 : Nat), .int .u64 (wd (p) 6 : Nat), .int .u64 (wd (p) 7 : Nat)] 24))) :
    Calls Tryd.prog 38 #[Value.agg #[.int .u64 (wd (p) 0 : Nat), .int .u64 (wd (p) 1 : Nat), .int .u64 (wd (p) 2 : Nat), .int .u64 (wd (p) 3 : Nat), .int .u64 (wd (p) 4 : Nat), .int .u64 (wd (p) 5 : Nat), .int .u64 (wd (p) 6 : Nat), .int .u64 (wd (p) 7 : Nat)], .func (.func 45) #[] #[.pointer (some a), .pointer (some b)]] w fun e w' => e = .returned (.tuple #[]) ∧ (I 512 w' ∨ ∃ n, n < 512 ∧ p n = true ∧ J n w') := by
  go_enter Tryd.func38, Tryd.ntmps38
  go_wp2_with fail
  go_loopw [7] (fun v7 wr => ∃ j : Nat, v7 = .int .i64 j ∧ j ≤ 8 ∧ Hid (I (64 * j) wr)) (fun v7 _ => 8 - (intOf v7).toNat)
  case atStart => exact ⟨0, rfl, by omega, Lib.hid h0⟩
  case round =>
    obtain ⟨j, rfl, hj, HI⟩ := hrel
    by_cases hlt : j < 8
    · have harr := index_set p hlt
      go_wp2_with fail
      rw [show decide ((j : Int) < 8) = true by simp; omega]
      go_loopw [5] (fun v5 wq => ∃ i : Nat, v5 = .int .u64 (wd (fromS p i) j : Nat) ∧ 64 * j ≤ i ∧ i ≤ 64 * (j + 1) ∧ Hid (I i wq)) (fun v5 _ => (intOf v5).toNat)
      case atStart => exact ⟨64 * j, val_int (by rw [← rest_start]), by omega, by omega, HI⟩
      case round =>
        obtain ⟨i, rfl, hi1, hi2, HJ⟩ := hrel
        by_cases hz : wd (fromS p i) j = 0
        · have HN := Lib.hid (skips hs HJ.out (64 * (j + 1) - i) (fun m m1 m2 => rest_zero hz m1 (by omega) (by omega)))
          rw [show i + (64 * (j + 1) - i) = 64 * (j + 1) by omega] at HN
          go_wp2_with fail
          go_roundw
          case rel => exact ⟨j + 1, by go_num, by omega, HN⟩
          case measure => simp [intOf]; omega
        · obtain ⟨n, hn, n1, n2, n3, n4, n5, n6⟩ := rest_low hz
          have HN := Lib.hid (skips hs HJ.out (n - i) (fun m m1 m2 => n4 m m1 (by omega) (by omega)))
          rw [show i + (n - i) = n by omega] at HN
          have hz1 := tz_calls _ hz (wd_lt (fromS p i) j) _ (hT _ _ HN.out)
          have hcl := hc n _ (by omega) n3 HN.out
          have HP := Lib.hid n3
          have hn512 : n < 512 := by omega
          generalize wd (fromS p i) j = X at *
          have hn' : (64 * (j : Int) + (Lib.ctz 64 X : Nat)) = (n : Int) := by omega
          have hX0 : ((X : Int) != 0) = true := bne_iff_ne.2 (by omega)
          have hck : Lib.ctz 64 X < 64 := by omega
          have HZ1 := Lib.hid hz1
          have HCL := Lib.hid hcl
          clear n4 n5 n6 hn n3 hz hz1 hcl
          go_wp2_with (first | (go_at_call 50; (with_reducible refine (HZ1.out).mono ?_); rintro e w' ⟨rfl, hw⟩; obtain rfl := hw.symm) | ((try rw [hn']); (go_at_call 45; (with_reducible refine (HCL.out).mono ?_); rintro e w1 ⟨rfl, HK⟩); replace HK := Lib.hid HK))
          exact bodyPost_ret (v := .tuple #[]) (by simp [results, Tryd.results38, go_sem]) rfl ⟨rfl, .inr ⟨n, hn512, HP.out, HK.out⟩⟩
    · have hj' : j = 8 := by omega
      subst hj'
      go_wp2_with fail
      exact ⟨rfl, .tuple #[], by simp [results, Tryd.results38, go_sem], rfl, .inl HI.out⟩
/-- What Next's walk over the rest leaves in its two variables. -/
theorem next_each (p q : Nat → Bool) (x : Int) (W Wz : World) (hT : Tab W) (he : Ext W Wz) (hqf : ∀ m : Nat, q m = false → x ≤ m → p m = false) (hqt : ∀ m : Nat, q m = true → p m = true ∧ x ≤ m) :
    Calls Tryd.prog 38 #[Value.agg #[.int .u64 (wd (q) 0 : Nat), .int .u64 (wd (q) 1 : Nat), .int .u64 (wd (q) 2 : Nat), .int .u64 (wd (q) 3 : Nat), .int .u64 (wd (q) 4 : Nat), .int .u64 (wd (q) 5 : Nat), .int .u64 (wd (q) 6 : Nat), .int .u64 (wd (q) 7 : Nat)], .func (.func 45) #[] #[.pointer (some ⟨Wz.heap.size, 0, none⟩), .pointer (some ⟨Wz.heap.size + 1, 0, none⟩)]] ((Wz.alloc (.cells #[.int .i64 0] 3)).alloc (.cells #[.bool false] 4)) fun e w' => e = .returned (.tuple #[]) ∧
      w'.cell? ⟨Wz.heap.size, 0, none⟩ = some (.int .i64 (nextN p x)) ∧ w'.cell? ⟨Wz.heap.size + 1, 0, none⟩ = some (.bool (nextB p x)) ∧ Ext W w' := by
  obtain ⟨I, hI⟩ : ∃ I : Nat → World → Prop, I = fun i w' => (∀ m, m < i → q m = false) ∧ w'.cell? ⟨Wz.heap.size, 0, none⟩ = some (.int .i64 0) ∧ w'.frozen? ⟨Wz.heap.size, 0, none⟩ = false ∧ w'.cell? ⟨Wz.heap.size + 1, 0, none⟩ = some (.bool false) ∧ w'.frozen? ⟨Wz.heap.size + 1, 0, none⟩ = false ∧ Ext W w' := ⟨_, rfl⟩
  refine (each_next q ⟨Wz.heap.size, 0, none⟩ ⟨Wz.heap.size + 1, 0, none⟩ I (fun n w' => (∀ m, m < n → q m = false) ∧ w'.cell? ⟨Wz.heap.size, 0, none⟩ = some (.int .i64 (n : Int)) ∧ w'.cell? ⟨Wz.heap.size + 1, 0, none⟩ = some (.bool true) ∧ Ext W w')
    (fun i w' h => by rw [hI] at h; exact hT.ext h.2.2.2.2.2)
    (fun i w' hq h => by
      rw [hI] at h ⊢
      obtain ⟨h1, h2⟩ := h
      refine ⟨fun m hm => ?_, h2⟩
      by_cases e : m = i
      · rw [e]; exact hq
      · exact h1 m (by omega))
    (fun i w' hi hq h => by
      rw [hI] at h
      obtain ⟨h1, h2, h3, h4, h5, h6⟩ := h
      refine (nextStep_calls _ _ i _ _ w' (by omega) h2 h3 h4 h5).mono ?_
      rintro e w2 ⟨rfl, k1, k2, k3⟩
      exact ⟨rfl, h1, k1, k2, k3 _ h6 he.le (Nat.le_trans he.le (Nat.le_succ _))⟩)
    _ ?_).mono ?_
  · rw [hI]
    have h1 : ∀ o : Obj, Ext ((Wz.alloc (.cells #[.int .i64 0] 3)).alloc (.cells #[.bool false] 4)) (((Wz.alloc (.cells #[.int .i64 0] 3)).alloc (.cells #[.bool false] 4)).alloc o) := fun o => (Ext.refl _).alloc o
    exact ⟨fun m hm => by omega, ((h1 _).cell _ _ (by simp; omega)).trans (by simp), ((h1 _).frozens _ _ (by simp; omega)).trans (by simp), ((h1 _).cell _ _ (by simp)).trans (by simp), ((h1 _).frozens _ _ (by simp)).trans (by simp), by (repeat (first | assumption | exact Ext.refl _ | apply Ext.alloc | apply Ext.drew | apply Ext.drewN | refine Ext.trans ?_ (by assumption)))⟩
  · rintro e w' ⟨rfl, h | ⟨n, hn, hq, h1, h2, h3, h4⟩⟩
    · rw [hI] at h
      obtain ⟨h1, h2, h3, h4, h5, h6⟩ := h
      have HO : nextO p x = none := find_nums_none (fun m hm hx => hqf m (h1 m hm) hx)
      exact ⟨rfl, by unfold nextN; rw [HO]; exact h2, by unfold nextB; rw [HO]; exact h4, h6⟩
    · have HO : nextO p x = some (n : Int) := find_nums_some (hqt n hq).1 (hqt n hq).2 (fun m hm hx => hqf m (h1 m hm) hx) 512 hn
      exact ⟨rfl, by unfold nextN; rw [HO]; exact h2, by unfold nextB; rw [HO]; exact h3, h4⟩
end Go.Proofs.YtbmnjnmpjpdcmaaDoor
