/- Part 3 of what the proofs of this seat share: MatV, LawMatA, LawBoole, RowLib, RowNd, RowTab. Conditions: none beyond those that each theorem names. -/
import Derived.Deep.Slices
import Derived.ChangeArms
import Derived.SizedLaws
import Derived.ProofKit
import Derived.LaidMore
import Derived.OpenShut
import Derived.Stop.Joined
import Derived.Test.YtdeppnamhdbbhaaDoorRows
import Derived.Test.YtdeppnamhdbbhaaDoorZ2
namespace Go.Proofs.YtdeppnamhdbbhaaDoor
open Go.RowKit Go.Eg

/-- What the reference's all comes to. -/
def AllOk (t : List Nd) (v : Value) (s : ByteArray) (W : World) : Prop := errW t = 0 → s.size < 512 → ∀ W', Ext W W' → Calls Tryd.prog 40 #[v, .string s] W' fun e w' => ∃ v', e = .returned v' ∧ Rd tySet w' (rowsL s (tr t)) v' ∧ Ext W' w'
set_option maxHeartbeats 4000000 in
set_option maxRecDepth 100000 in
theorem rEnds_calls (t : List Nd) (v : Value) (s : ByteArray) (i : Int) (W : World) (hr : Rd tyNd W t v) (hs : s.size ≤ 281474976710656) (hall : AllOk t v s W) :
    Calls Tryd.prog 33 #[v, .string s, .int .i64 i] W fun e w' => e = .returned (.tuple #[Value.agg #[.int .u64 (wd (endsS t s i) 0 : Nat), .int .u64 (wd (endsS t s i) 1 : Nat), .int .u64 (wd (endsS t s i) 2 : Nat), .int .u64 (wd (endsS t s i) 3 : Nat), .int .u64 (wd (endsS t s i) 4 : Nat), .int .u64 (wd (endsS t s i) 5 : Nat), .int .u64 (wd (endsS t s i) 6 : Nat), .int .u64 (wd (endsS t s i) 7 : Nat)], .int .i64 (endsE t s i)]) ∧ Ext W w' := by
  have HZ : Hid (Arr (W.alloc (.cells #[Value.int .u64 0, .int .u64 0, .int .u64 0, .int .u64 0, .int .u64 0, .int .u64 0, .int .u64 0, .int .u64 0] 31)) W.heap.size (fun _ => false)) := Lib.hid (Arr.zero rfl)
  have HS : Hid (W.heap.size < ((W.alloc (.cells #[Value.int .u64 0, .int .u64 0, .int .u64 0, .int .u64 0, .int .u64 0, .int .u64 0, .int .u64 0, .int .u64 0] 31))).heap.size) := by show _ < _; simp
  have HX : Hid (Ext W (W.alloc (.cells #[Value.int .u64 0, .int .u64 0, .int .u64 0, .int .u64 0, .int .u64 0, .int .u64 0, .int .u64 0, .int .u64 0] 31))) := by show Ext _ _; (repeat (first | assumption | exact Ext.refl _ | apply Ext.alloc | apply Ext.drew | apply Ext.drewN | refine Ext.set ?_ (by first | exact Nat.le_refl _ | assumption | exact Nat.le_succ _ | exact Nat.le_add_right _ _ | exact Nat.le_trans (Nat.le_succ _) (Nat.le_succ _) | omega) _ | refine Ext.trans ?_ (by assumption)))
  have HC := Lib.hid (fun W' (hE : Ext W W') => rWrong_calls t v W' (hr.ext hE))
  by_cases h1 : errW t = 0
  · by_cases h2 : wordE s = 0
    · have hs5 := word_size h2
      by_cases h3 : 0 ≤ i ∧ i ≤ s.size
      · have hE : endsE t s i = 0 := by rw [endsE, if_neg (by omega), if_neg (by omega), if_pos h3]
        obtain ⟨m, rfl⟩ := Int.eq_ofNat_of_zero_le h3.1
        have hS : endsS t s (m : Int) = rowB (bt s) s.size (tr t) m := by rw [endsS, if_pos hE]; rfl
        have HR := Lib.hid (hall h1 hs5)
        have hm : m < (rowsL s (tr t)).length := by rw [rowsL_len]; omega
        have HA := Lib.hid (atS_get hm)
        rw [atS_rows] at HA
        have hm3 : decide (((s.size : Int)) < (m : Int)) = false := decide_eq_false (by omega)
        have hm0 : decide ((m : Int) < 0) = false := decide_eq_false (by omega)
        have hm4 : decide (s.size < m) = false := decide_eq_false (by omega)
        have hm5 : m ≤ s.size := by omega
        rw [hS, hE]
        generalize rowB (bt s) s.size (tr t) m = r at *
        generalize rowsL s (tr t) = L at *
        have HL := Lib.hid (rword_calls s · hs)
        rw [h1] at HC
        rw [h2] at HL
        clear hS hE h1 h2 h3 hr hall
        go_enter Tryd.func33, Tryd.ntmps33
        go_wp2_with (first
          | ((go_at_call 20; (with_reducible refine (HC.out _ HX.out).mono ?_); rintro e w1 ⟨rfl, hx1⟩))
          | ((go_at_call 39; (with_reducible refine (HL.out _).mono ?_); rintro e w' ⟨rfl, hw⟩; obtain rfl := hw.symm))
          | ((go_at_call 40; (with_reducible refine (HR.out _ (HX.out.trans hx1)).mono ?_); rintro e w2 ⟨v2, rfl, hr2, hx2⟩); obtain ⟨A2, c2, rfl, hl2, _⟩ := hr2.shape; obtain ⟨b2, o2, rfl, hb2, q0, q1, q2, q3, q4, q5, q6, q7⟩ := rd_set hr2 HA.out; have hx3 := hx1.trans hx2; (have HZ2 := Lib.hid (HZ.out.ext hx3 HS.out)); (have HX2 := Lib.hid (HX.out.trans hx3)); have H__ := (HZ2).out; obtain ⟨ce0, fe0⟩ := H__ 0 (by omega); obtain ⟨ce1, fe1⟩ := H__ 1 (by omega); obtain ⟨ce2, fe2⟩ := H__ 2 (by omega); obtain ⟨ce3, fe3⟩ := H__ 3 (by omega); obtain ⟨ce4, fe4⟩ := H__ 4 (by omega); obtain ⟨ce5, fe5⟩ := H__ 5 (by omega); obtain ⟨ce6, fe6⟩ := H__ 6 (by omega); obtain ⟨ce7, fe7⟩ := H__ 7 (by omega); clear H__))
        have HEX : Hid (Ext W ((((((((w2.setCell ⟨W.heap.size, 0, none⟩ (.int .u64 (wd (r) 0 : Nat))).setCell ⟨W.heap.size, 1, none⟩ (.int .u64 (wd (r) 1 : Nat))).setCell ⟨W.heap.size, 2, none⟩ (.int .u64 (wd (r) 2 : Nat))).setCell ⟨W.heap.size, 3, none⟩ (.int .u64 (wd (r) 3 : Nat))).setCell ⟨W.heap.size, 4, none⟩ (.int .u64 (wd (r) 4 : Nat))).setCell ⟨W.heap.size, 5, none⟩ (.int .u64 (wd (r) 5 : Nat))).setCell ⟨W.heap.size, 6, none⟩ (.int .u64 (wd (r) 6 : Nat))).setCell ⟨W.heap.size, 7, none⟩ (.int .u64 (wd (r) 7 : Nat)))) := ((((((((HX2.out.set (by first | exact Nat.le_refl _ | exact Nat.le_succ _ | exact Nat.le_add_right _ _ | exact Nat.le_trans (Nat.le_succ _) (Nat.le_succ _) | omega) _).set (by first | exact Nat.le_refl _ | exact Nat.le_succ _ | exact Nat.le_add_right _ _ | exact Nat.le_trans (Nat.le_succ _) (Nat.le_succ _) | omega) _).set (by first | exact Nat.le_refl _ | exact Nat.le_succ _ | exact Nat.le_add_right _ _ | exact Nat.le_trans (Nat.le_succ _) (Nat.le_succ _) | omega) _).set (by first | exact Nat.le_refl _ | exact Nat.le_succ _ | exact Nat.le_add_right _ _ | exact Nat.le_trans (Nat.le_succ _) (Nat.le_succ _) | omega) _).set (by first | exact Nat.le_refl _ | exact Nat.le_succ _ | exact Nat.le_add_right _ _ | exact Nat.le_trans (Nat.le_succ _) (Nat.le_succ _) | omega) _).set (by first | exact Nat.le_refl _ | exact Nat.le_succ _ | exact Nat.le_add_right _ _ | exact Nat.le_trans (Nat.le_succ _) (Nat.le_succ _) | omega) _).set (by first | exact Nat.le_refl _ | exact Nat.le_succ _ | exact Nat.le_add_right _ _ | exact Nat.le_trans (Nat.le_succ _) (Nat.le_succ _) | omega) _).set (by first | exact Nat.le_refl _ | exact Nat.le_succ _ | exact Nat.le_add_right _ _ | exact Nat.le_trans (Nat.le_succ _) (Nat.le_succ _) | omega) _)
        exact bodyPost_ret (v := .tuple #[Value.agg #[.int .u64 (wd (r) 0 : Nat), .int .u64 (wd (r) 1 : Nat), .int .u64 (wd (r) 2 : Nat), .int .u64 (wd (r) 3 : Nat), .int .u64 (wd (r) 4 : Nat), .int .u64 (wd (r) 5 : Nat), .int .u64 (wd (r) 6 : Nat), .int .u64 (wd (r) 7 : Nat)], .int .i64 0]) (by simp [results, Tryd.results33, go_sem, *]) rfl ⟨rfl, HEX⟩
      · have hE : endsE t s i = 11 := by rw [endsE, if_neg (by omega), if_neg (by omega), if_neg h3]
        have hS := ends_not (t := t) (s := s) (i := i) (by omega)
        rw [hS, hE]
        simp only [wd_none]
        have HL := Lib.hid (rword_calls s · hs)
        rw [h1] at HC
        rw [h2] at HL
        clear hS hE h1 h2 hr hall
        by_cases h0 : i < 0
        · have hm0 : decide (i < 0) = true := decide_eq_true h0
          go_enter Tryd.func33, Tryd.ntmps33
          go_wp2_with (first
            | ((go_at_call 20; (with_reducible refine (HC.out _ HX.out).mono ?_); rintro e w1 ⟨rfl, hx1⟩); (have HZ2 := Lib.hid (HZ.out.ext hx1 HS.out)); (have HX2 := Lib.hid (HX.out.trans hx1)); have H__ := (HZ2).out; obtain ⟨ce0, fe0⟩ := H__ 0 (by omega); obtain ⟨ce1, fe1⟩ := H__ 1 (by omega); obtain ⟨ce2, fe2⟩ := H__ 2 (by omega); obtain ⟨ce3, fe3⟩ := H__ 3 (by omega); obtain ⟨ce4, fe4⟩ := H__ 4 (by omega); obtain ⟨ce5, fe5⟩ := H__ 5 (by omega); obtain ⟨ce6, fe6⟩ := H__ 6 (by omega); obtain ⟨ce7, fe7⟩ := H__ 7 (by omega); clear H__)
            | ((go_at_call 39; (with_reducible refine (HL.out _).mono ?_); rintro e w' ⟨rfl, hw⟩; obtain rfl := hw.symm)))
          have HEX : Hid (Ext W ((((((((w1.setCell ⟨W.heap.size, 0, none⟩ (.int .u64 0)).setCell ⟨W.heap.size, 1, none⟩ (.int .u64 0)).setCell ⟨W.heap.size, 2, none⟩ (.int .u64 0)).setCell ⟨W.heap.size, 3, none⟩ (.int .u64 0)).setCell ⟨W.heap.size, 4, none⟩ (.int .u64 0)).setCell ⟨W.heap.size, 5, none⟩ (.int .u64 0)).setCell ⟨W.heap.size, 6, none⟩ (.int .u64 0)).setCell ⟨W.heap.size, 7, none⟩ (.int .u64 0))) := ((((((((HX2.out.set (by first | exact Nat.le_refl _ | exact Nat.le_succ _ | exact Nat.le_add_right _ _ | exact Nat.le_trans (Nat.le_succ _) (Nat.le_succ _) | omega) _).set (by first | exact Nat.le_refl _ | exact Nat.le_succ _ | exact Nat.le_add_right _ _ | exact Nat.le_trans (Nat.le_succ _) (Nat.le_succ _) | omega) _).set (by first | exact Nat.le_refl _ | exact Nat.le_succ _ | exact Nat.le_add_right _ _ | exact Nat.le_trans (Nat.le_succ _) (Nat.le_succ _) | omega) _).set (by first | exact Nat.le_refl _ | exact Nat.le_succ _ | exact Nat.le_add_right _ _ | exact Nat.le_trans (Nat.le_succ _) (Nat.le_succ _) | omega) _).set (by first | exact Nat.le_refl _ | exact Nat.le_succ _ | exact Nat.le_add_right _ _ | exact Nat.le_trans (Nat.le_succ _) (Nat.le_succ _) | omega) _).set (by first | exact Nat.le_refl _ | exact Nat.le_succ _ | exact Nat.le_add_right _ _ | exact Nat.le_trans (Nat.le_succ _) (Nat.le_succ _) | omega) _).set (by first | exact Nat.le_refl _ | exact Nat.le_succ _ | exact Nat.le_add_right _ _ | exact Nat.le_trans (Nat.le_succ _) (Nat.le_succ _) | omega) _).set (by first | exact Nat.le_refl _ | exact Nat.le_succ _ | exact Nat.le_add_right _ _ | exact Nat.le_trans (Nat.le_succ _) (Nat.le_succ _) | omega) _)
          exact bodyPost_ret (v := .tuple #[Value.agg #[.int .u64 0, .int .u64 0, .int .u64 0, .int .u64 0, .int .u64 0, .int .u64 0, .int .u64 0, .int .u64 0], .int .i64 11]) (by simp [results, Tryd.results33, go_sem, *]) rfl ⟨rfl, HEX⟩
        · have hm0 : decide (i < 0) = false := decide_eq_false h0
          have hm3 : decide (((s.size : Int)) < i) = true := decide_eq_true (by omega)
          go_enter Tryd.func33, Tryd.ntmps33
          go_wp2_with (first
            | ((go_at_call 20; (with_reducible refine (HC.out _ HX.out).mono ?_); rintro e w1 ⟨rfl, hx1⟩); (have HZ2 := Lib.hid (HZ.out.ext hx1 HS.out)); (have HX2 := Lib.hid (HX.out.trans hx1)); have H__ := (HZ2).out; obtain ⟨ce0, fe0⟩ := H__ 0 (by omega); obtain ⟨ce1, fe1⟩ := H__ 1 (by omega); obtain ⟨ce2, fe2⟩ := H__ 2 (by omega); obtain ⟨ce3, fe3⟩ := H__ 3 (by omega); obtain ⟨ce4, fe4⟩ := H__ 4 (by omega); obtain ⟨ce5, fe5⟩ := H__ 5 (by omega); obtain ⟨ce6, fe6⟩ := H__ 6 (by omega); obtain ⟨ce7, fe7⟩ := H__ 7 (by omega); clear H__)
            | ((go_at_call 39; (with_reducible refine (HL.out _).mono ?_); rintro e w' ⟨rfl, hw⟩; obtain rfl := hw.symm)))
          have HEX : Hid (Ext W ((((((((w1.setCell ⟨W.heap.size, 0, none⟩ (.int .u64 0)).setCell ⟨W.heap.size, 1, none⟩ (.int .u64 0)).setCell ⟨W.heap.size, 2, none⟩ (.int .u64 0)).setCell ⟨W.heap.size, 3, none⟩ (.int .u64 0)).setCell ⟨W.heap.size, 4, none⟩ (.int .u64 0)).setCell ⟨W.heap.size, 5, none⟩ (.int .u64 0)).setCell ⟨W.heap.size, 6, none⟩ (.int .u64 0)).setCell ⟨W.heap.size, 7, none⟩ (.int .u64 0))) := ((((((((HX2.out.set (by first | exact Nat.le_refl _ | exact Nat.le_succ _ | exact Nat.le_add_right _ _ | exact Nat.le_trans (Nat.le_succ _) (Nat.le_succ _) | omega) _).set (by first | exact Nat.le_refl _ | exact Nat.le_succ _ | exact Nat.le_add_right _ _ | exact Nat.le_trans (Nat.le_succ _) (Nat.le_succ _) | omega) _).set (by first | exact Nat.le_refl _ | exact Nat.le_succ _ | exact Nat.le_add_right _ _ | exact Nat.le_trans (Nat.le_succ _) (Nat.le_succ _) | omega) _).set (by first | exact Nat.le_refl _ | exact Nat.le_succ _ | exact Nat.le_add_right _ _ | exact Nat.le_trans (Nat.le_succ _) (Nat.le_succ _) | omega) _).set (by first | exact Nat.le_refl _ | exact Nat.le_succ _ | exact Nat.le_add_right _ _ | exact Nat.le_trans (Nat.le_succ _) (Nat.le_succ _) | omega) _).set (by first | exact Nat.le_refl _ | exact Nat.le_succ _ | exact Nat.le_add_right _ _ | exact Nat.le_trans (Nat.le_succ _) (Nat.le_succ _) | omega) _).set (by first | exact Nat.le_refl _ | exact Nat.le_succ _ | exact Nat.le_add_right _ _ | exact Nat.le_trans (Nat.le_succ _) (Nat.le_succ _) | omega) _).set (by first | exact Nat.le_refl _ | exact Nat.le_succ _ | exact Nat.le_add_right _ _ | exact Nat.le_trans (Nat.le_succ _) (Nat.le_succ _) | omega) _)
          exact bodyPost_ret (v := .tuple #[Value.agg #[.int .u64 0, .int .u64 0, .int .u64 0, .int .u64 0, .int .u64 0, .int .u64 0, .int .u64 0, .int .u64 0], .int .i64 11]) (by simp [results, Tryd.results33, go_sem, *]) rfl ⟨rfl, HEX⟩
    · have hE : endsE t s i = wordE s := by rw [endsE, if_neg (by omega), if_pos h2]
      have hS := ends_not (t := t) (s := s) (i := i) (by omega)
      rw [hS, hE]
      simp only [wd_none]
      have HL := Lib.hid (rword_calls s · hs)
      rw [h1] at HC
      have hne : (wordE s != 0) = true := bne_iff_ne.2 h2
      have heq : (wordE s == 0) = false := beq_eq_false_iff_ne.2 h2
      generalize wordE s = ew at *
      clear hS hE h1 h2 hr hall
      go_enter Tryd.func33, Tryd.ntmps33
      go_wp2_with (first
        | ((go_at_call 20; (with_reducible refine (HC.out _ HX.out).mono ?_); rintro e w1 ⟨rfl, hx1⟩); (have HZ2 := Lib.hid (HZ.out.ext hx1 HS.out)); (have HX2 := Lib.hid (HX.out.trans hx1)); have H__ := (HZ2).out; obtain ⟨ce0, fe0⟩ := H__ 0 (by omega); obtain ⟨ce1, fe1⟩ := H__ 1 (by omega); obtain ⟨ce2, fe2⟩ := H__ 2 (by omega); obtain ⟨ce3, fe3⟩ := H__ 3 (by omega); obtain ⟨ce4, fe4⟩ := H__ 4 (by omega); obtain ⟨ce5, fe5⟩ := H__ 5 (by omega); obtain ⟨ce6, fe6⟩ := H__ 6 (by omega); obtain ⟨ce7, fe7⟩ := H__ 7 (by omega); clear H__)
        | ((go_at_call 39; (with_reducible refine (HL.out _).mono ?_); rintro e w' ⟨rfl, hw⟩; obtain rfl := hw.symm)))
      have HEX : Hid (Ext W ((((((((w1.setCell ⟨W.heap.size, 0, none⟩ (.int .u64 0)).setCell ⟨W.heap.size, 1, none⟩ (.int .u64 0)).setCell ⟨W.heap.size, 2, none⟩ (.int .u64 0)).setCell ⟨W.heap.size, 3, none⟩ (.int .u64 0)).setCell ⟨W.heap.size, 4, none⟩ (.int .u64 0)).setCell ⟨W.heap.size, 5, none⟩ (.int .u64 0)).setCell ⟨W.heap.size, 6, none⟩ (.int .u64 0)).setCell ⟨W.heap.size, 7, none⟩ (.int .u64 0))) := ((((((((HX2.out.set (by first | exact Nat.le_refl _ | exact Nat.le_succ _ | exact Nat.le_add_right _ _ | exact Nat.le_trans (Nat.le_succ _) (Nat.le_succ _) | omega) _).set (by first | exact Nat.le_refl _ | exact Nat.le_succ _ | exact Nat.le_add_right _ _ | exact Nat.le_trans (Nat.le_succ _) (Nat.le_succ _) | omega) _).set (by first | exact Nat.le_refl _ | exact Nat.le_succ _ | exact Nat.le_add_right _ _ | exact Nat.le_trans (Nat.le_succ _) (Nat.le_succ _) | omega) _).set (by first | exact Nat.le_refl _ | exact Nat.le_succ _ | exact Nat.le_add_right _ _ | exact Nat.le_trans (Nat.le_succ _) (Nat.le_succ _) | omega) _).set (by first | exact Nat.le_refl _ | exact Nat.le_succ _ | exact Nat.le_add_right _ _ | exact Nat.le_trans (Nat.le_succ _) (Nat.le_succ _) | omega) _).set (by first | exact Nat.le_refl _ | exact Nat.le_succ _ | exact Nat.le_add_right _ _ | exact Nat.le_trans (Nat.le_succ _) (Nat.le_succ _) | omega) _).set (by first | exact Nat.le_refl _ | exact Nat.le_succ _ | exact Nat.le_add_right _ _ | exact Nat.le_trans (Nat.le_succ _) (Nat.le_succ _) | omega) _).set (by first | exact Nat.le_refl _ | exact Nat.le_succ _ | exact Nat.le_add_right _ _ | exact Nat.le_trans (Nat.le_succ _) (Nat.le_succ _) | omega) _)
      exact bodyPost_ret (v := .tuple #[Value.agg #[.int .u64 0, .int .u64 0, .int .u64 0, .int .u64 0, .int .u64 0, .int .u64 0, .int .u64 0, .int .u64 0], .int .i64 ew]) (by simp [results, Tryd.results33, go_sem, *]) rfl ⟨rfl, HEX⟩
  · have hE : endsE t s i = errW t := by rw [endsE, if_pos h1]
    have hS := ends_not (t := t) (s := s) (i := i) (by omega)
    rw [hS, hE]
    simp only [wd_none]
    have hne : (errW t != 0) = true := bne_iff_ne.2 h1
    have heq : (errW t == 0) = false := beq_eq_false_iff_ne.2 h1
    clear hall
    generalize errW t = ew at *
    clear hS hE h1 hr
    go_enter Tryd.func33, Tryd.ntmps33
    go_wp2_with (first
      | ((go_at_call 20; (with_reducible refine (HC.out _ HX.out).mono ?_); rintro e w1 ⟨rfl, hx1⟩); (have HZ2 := Lib.hid (HZ.out.ext hx1 HS.out)); (have HX2 := Lib.hid (HX.out.trans hx1)); have H__ := (HZ2).out; obtain ⟨ce0, fe0⟩ := H__ 0 (by omega); obtain ⟨ce1, fe1⟩ := H__ 1 (by omega); obtain ⟨ce2, fe2⟩ := H__ 2 (by omega); obtain ⟨ce3, fe3⟩ := H__ 3 (by omega); obtain ⟨ce4, fe4⟩ := H__ 4 (by omega); obtain ⟨ce5, fe5⟩ := H__ 5 (by omega); obtain ⟨ce6, fe6⟩ := H__ 6 (by omega); obtain ⟨ce7, fe7⟩ := H__ 7 (by omega); clear H__))
    have HEX : Hid (Ext W ((((((((w1.setCell ⟨W.heap.size, 0, none⟩ (.int .u64 0)).setCell ⟨W.heap.size, 1, none⟩ (.int .u64 0)).setCell ⟨W.heap.size, 2, none⟩ (.int .u64 0)).setCell ⟨W.heap.size, 3, none⟩ (.int .u64 0)).setCell ⟨W.heap.size, 4, none⟩ (.int .u64 0)).setCell ⟨W.heap.size, 5, none⟩ (.int .u64 0)).setCell ⟨W.heap.size, 6, none⟩ (.int .u64 0)).setCell ⟨W.heap.size, 7, none⟩ (.int .u64 0))) := ((((((((HX2.out.set (by first | exact Nat.le_refl _ | exact Nat.le_succ _ | exact Nat.le_add_right _ _ | exact Nat.le_trans (Nat.le_succ _) (Nat.le_succ _) | omega) _).set (by first | exact Nat.le_refl _ | exact Nat.le_succ _ | exact Nat.le_add_right _ _ | exact Nat.le_trans (Nat.le_succ _) (Nat.le_succ _) | omega) _).set (by first | exact Nat.le_refl _ | exact Nat.le_succ _ | exact Nat.le_add_right _ _ | exact Nat.le_trans (Nat.le_succ _) (Nat.le_succ _) | omega) _).set (by first | exact Nat.le_refl _ | exact Nat.le_succ _ | exact Nat.le_add_right _ _ | exact Nat.le_trans (Nat.le_succ _) (Nat.le_succ _) | omega) _).set (by first | exact Nat.le_refl _ | exact Nat.le_succ _ | exact Nat.le_add_right _ _ | exact Nat.le_trans (Nat.le_succ _) (Nat.le_succ _) | omega) _).set (by first | exact Nat.le_refl _ | exact Nat.le_succ _ | exact Nat.le_add_right _ _ | exact Nat.le_trans (Nat.le_succ _) (Nat.le_succ _) | omega) _).set (by first | exact Nat.le_refl _ | exact Nat.le_succ _ | exact Nat.le_add_right _ _ | exact Nat.le_trans (Nat.le_succ _) (Nat.le_succ _) | omega) _).set (by first | exact Nat.le_refl _ | exact Nat.le_succ _ | exact Nat.le_add_right _ _ | exact Nat.le_trans (Nat.le_succ _) (Nat.le_succ _) | omega) _)
    exact bodyPost_ret (v := .tuple #[Value.agg #[.int .u64 0, .int .u64 0, .int .u64 0, .int .u64 0, .int .u64 0, .int .u64 0, .int .u64 0, .int .u64 0], .int .i64 ew]) (by simp [results, Tryd.results33, go_sem, *]) rfl ⟨rfl, HEX⟩

set_option maxHeartbeats 2000000 in
set_option maxRecDepth 100000 in
theorem rMember_calls (t : List Nd) (v : Value) (s : ByteArray) (W : World) (hr : Rd tyNd W t v) (hs : s.size ≤ 281474976710656) (hall : AllOk t v s W) :
    Calls Tryd.prog 21 #[v, .string s] W fun e w' => e = .returned (.tuple #[.bool (memR t s), .int .i64 (endsE t s 0)]) ∧ Ext W w' := by
  have HE := Lib.hid (rEnds_calls t v s 0 W hr hs hall)
  have HM := Lib.hid (mem_of t s)
  have HH := Lib.hid (rHas_calls (endsS t s 0) (s.size : Int))
  have HN : Hid (endsE t s 0 ≠ 0 → memR t s = false) := Lib.hid (fun h => by rw [memR, decide_eq_false h]; rfl)
  generalize endsS t s 0 = r at *
  generalize endsE t s 0 = ee at *
  rw [HM.out] at HH
  clear hr hall
  by_cases h : ee = 0
  · subst h
    go_enter Tryd.func21, Tryd.ntmps21
    go_wp2_with (first
      | ((go_at_call 33; (with_reducible refine (HE.out).mono ?_); rintro e w1 ⟨rfl, hx1⟩))
      | ((go_at_call 34; (with_reducible refine (HH.out _).mono ?_); rintro e w2 ⟨rfl, hx2⟩)))
    go_ret2
    exact ⟨rfl, (hx1.alloc _).trans hx2⟩
  · have hb : (ee == 0) = false := beq_eq_false_iff_ne.2 h
    rw [HN.out h]
    clear h
    go_enter Tryd.func21, Tryd.ntmps21
    go_wp2_with ((go_at_call 33; (with_reducible refine (HE.out).mono ?_); rintro e w1 ⟨rfl, hx1⟩))
    go_ret2
    exact ⟨rfl, hx1.alloc _⟩
end Go.Proofs.YtdeppnamhdbbhaaDoor
namespace Go.Proofs.YtdeppnamhdbbhaaDoor
open Go.RowKit Go.Eg

theorem num6_calls (x : Int) (w : World) : Calls Tryd.prog 13 #[.int .i64 x] w fun e w' => e = .returned (.int .i64 x) ∧ w' = w := by
  go_enter Tryd.func13, Tryd.ntmps13
  go_wp2_with fail
  go_ret
  exact ⟨rfl, rfl⟩
def liveT : List Nd := [⟨3, 97⟩, ⟨3, 98⟩, ⟨7, 0⟩, ⟨8, 0⟩]
theorem lit_live (W : World) (e : TypeId) : Rd tyNd (W.alloc (.cells #[.int .i64 3, .int .u8 97, .int .i64 3, .int .u8 98, .int .i64 7, .int .u8 0, .int .i64 8, .int .u8 0] e)) liveT (.slice (some ⟨W.heap.size, 0, none⟩) 4 4) :=
  SlP.lit (t := tyNd) liveT _ (n := 4) rfl (by decide) trivial (fun i x hx => by
    match i, hx with
    | 0, hx | 1, hx | 2, hx | 3, hx =>
      cases hx
      refine ⟨_, ⟨rfl, by decide⟩, fun j u hu => ?_⟩
      match j, hu with
      | 0, hu => cases hu; rfl
      | 1, hu => cases hu; rfl
      | j + 2, hu => simp at hu)
theorem live_yes : memR liveT ⟨#[97, 98, 97, 98]⟩ = true := by decide
theorem live_no : memR liveT ⟨#[97, 98, 97]⟩ = false := by decide
theorem live_e4 : endsE liveT ⟨#[97, 98, 97, 98]⟩ 0 = 0 := by decide
theorem live_e3 : endsE liveT ⟨#[97, 98, 97]⟩ 0 = 0 := by decide
set_option maxHeartbeats 2000000 in
theorem live6_calls (w : World) (hT : Tab w) : Calls Tryd.prog 8 #[] w fun e w' => e = .returned (.bool true) ∧ Ext w w' := by
  have HM := Lib.hid (fun s W v (hE : Ext w W) (h : Rd tyNd W liveT v) (hs : s.size ≤ 140737488351232) => Member_calls liveT v s W h hs (hT.ext hE))
  have HA := Lib.hid (HM.out ⟨#[97, 98, 97, 98]⟩ · · · · (by decide))
  have HB := Lib.hid (HM.out ⟨#[97, 98, 97]⟩ · · · · (by decide))
  rw [live_yes, live_e4] at HA
  rw [live_no, live_e3] at HB
  go_enter Tryd.func8, Tryd.ntmps8
  go_wp2_with (first
    | ((go_at_call 22; (with_reducible refine (HA.out _ _ ((Ext.refl w).alloc _) (lit_live _ _)).mono ?_); rintro e w1 ⟨rfl, h1⟩))
    | ((go_at_call 22; (with_reducible refine (HB.out _ _ (((Ext.refl w).alloc _).trans h1) ((lit_live _ _).ext h1)).mono ?_); rintro e w2 ⟨rfl, h2⟩))
    | ((go_at_call 13; (with_reducible refine (num6_calls _ _).mono ?_); rintro e w' ⟨rfl, hw⟩; obtain rfl := hw.symm)))
  go_ret
  exact ⟨rfl, (((Ext.refl w).alloc _).trans h1).trans h2⟩
set_option maxHeartbeats 2000000 in
theorem in6_calls (t : List Nd) (v : Value) (s : ByteArray) (w : World) (hr : Rd tyNd w t v) (hs : s.size ≤ 140737488351232) (hT : Tab w) :
    Calls Tryd.prog 9 #[v, .string s] w fun e w' => e = .returned (.bool (memR t s)) ∧ Ext w w' := by
  have HM := Lib.hid (Member_calls t v s w hr hs hT)
  have HN : Hid (memR t s = true → endsE t s 0 = 0) := Lib.hid (fun h => by
    unfold memR at h
    simp only [Bool.and_eq_true, decide_eq_true_eq] at h
    exact h.1)
  generalize endsE t s 0 = ee at *
  cases hm : memR t s with
  | false =>
    rw [hm] at HM
    clear hm hr hT
    go_enter Tryd.func9, Tryd.ntmps9
    go_wp2_with ((go_at_call 22; (with_reducible refine (HM.out).mono ?_); rintro e w1 ⟨rfl, h1⟩))
    go_ret
    exact ⟨rfl, h1⟩
  | true =>
    have h0 := HN.out hm
    subst h0
    rw [hm] at HM
    clear hm hr hT
    go_enter Tryd.func9, Tryd.ntmps9
    go_wp2_with (first
      | ((go_at_call 22; (with_reducible refine (HM.out).mono ?_); rintro e w1 ⟨rfl, h1⟩))
      | ((go_at_call 13; (with_reducible refine (num6_calls _ _).mono ?_); rintro e w' ⟨rfl, hw⟩; obtain rfl := hw.symm)))
    go_ret
    exact ⟨rfl, h1⟩
/-- May a tree be joined with others, and a word be asked? -/
def goodR (t : List Nd) (s : ByteArray) : Bool := decide (errW t = 0) && decide (t.length ≤ 1000) && decide (wordE s = 0)
def anyT : List Nd := [⟨4, 0⟩]
theorem lit_any (W : World) (e : TypeId) : Rd tyNd (W.alloc (.cells #[.int .i64 4, .int .u8 0] e)) anyT (.slice (some ⟨W.heap.size, 0, none⟩) 1 1) :=
  SlP.one (t := tyNd) ⟨4, 0⟩ _ (fun _ _ => ⟨rfl, by decide⟩)
theorem any_e (s : ByteArray) : endsE anyT s 0 = wordE s := by
  have h : errW anyT = 0 := by decide
  unfold endsE
  rw [if_neg (by omega)]
  split
  · rfl
  · rename_i h1; rw [if_pos (by omega)]; omega
set_option maxHeartbeats 2000000 in
theorem good6_calls (t : List Nd) (v : Value) (s : ByteArray) (w : World) (hr : Rd tyNd w t v) (hs : s.size ≤ 281474976710656) :
    Calls Tryd.prog 7 #[v, .string s] w fun e w' => e = .returned (.bool (goodR t s)) ∧ Ext w w' := by
  have HW := Lib.hid (rWrong_calls t v w hr)
  obtain ⟨A, c, rfl, hlc, hcm⟩ := hr.shape
  unfold maxLen at hcm
  by_cases h1 : errW t = 0
  · by_cases h2 : t.length ≤ 1000
    · have hG : goodR t s = decide (wordE s = 0) := by rw [goodR, decide_eq_true h1, decide_eq_true h2]; rfl
      have h2' : decide ((1000 : Int) < t.length) = false := decide_eq_false (by omega)
      have HM := Lib.hid (fun W v (h : Rd tyNd W anyT v) => rMember_calls anyT v s W h hs (fun _ hs5 W' hE => rall_leaf s hs5 ⟨4, 0⟩ (by decide) (by decide) v W' (h.ext hE)))
      rw [any_e] at HM
      rw [h1] at HW
      rw [hG]
      generalize wordE s = ew at *
      clear hG h1 hr
      by_cases h3 : ew = 0
      · subst h3
        go_enter Tryd.func7, Tryd.ntmps7
        go_wp2_with (first
          | ((go_at_call 20; (with_reducible refine (HW.out).mono ?_); rintro e w1 ⟨rfl, hx1⟩))
          | ((go_at_call 21; (with_reducible refine (HM.out _ _ (lit_any _ _)).mono ?_); rintro e w2 ⟨rfl, hx2⟩)))
        go_ret
        exact ⟨rfl, (hx1.alloc _).trans hx2⟩
      · have hb : (ew == 0) = false := beq_eq_false_iff_ne.2 h3
        rw [decide_eq_false h3]
        clear h3
        go_enter Tryd.func7, Tryd.ntmps7
        go_wp2_with (first
          | ((go_at_call 20; (with_reducible refine (HW.out).mono ?_); rintro e w1 ⟨rfl, hx1⟩))
          | ((go_at_call 21; (with_reducible refine (HM.out _ _ (lit_any _ _)).mono ?_); rintro e w2 ⟨rfl, hx2⟩)))
        go_ret
        exact ⟨rfl, (hx1.alloc _).trans hx2⟩
    · have hG : goodR t s = false := by rw [goodR, decide_eq_false h2]; simp
      have h2' : decide ((1000 : Int) < t.length) = true := decide_eq_true (by omega)
      rw [h1] at HW
      rw [hG]
      clear hG h1 hr h2
      go_enter Tryd.func7, Tryd.ntmps7
      go_wp2_with ((go_at_call 20; (with_reducible refine (HW.out).mono ?_); rintro e w1 ⟨rfl, hx1⟩))
      go_ret
      exact ⟨rfl, hx1⟩
  · have hG : goodR t s = false := by rw [goodR, decide_eq_false h1]; rfl
    have hne : (errW t != 0) = true := bne_iff_ne.2 h1
    rw [hG]
    generalize errW t = ew at *
    clear hG h1 hr
    go_enter Tryd.func7, Tryd.ntmps7
    go_wp2_with ((go_at_call 20; (with_reducible refine (HW.out).mono ?_); rintro e w1 ⟨rfl, hx1⟩))
    go_ret
    exact ⟨rfl, hx1⟩
end Go.Proofs.YtdeppnamhdbbhaaDoor
namespace Go.Proofs.YtdeppnamhdbbhaaDoor
open Go.RowKit Go.Eg

theorem rd_lit1 {w : World} {e : TypeId} {x : List Nd} {u : Value} (h : Rd tyNd w x u) : Rd (Ty.slice tyNd) (w.alloc (.cells #[u] e)) [x] (.slice (some ⟨w.heap.size, 0, none⟩) 1 1) := SlP.lit1 (B := Any) trivial h
theorem rd_lit2 {w : World} {e : TypeId} {x y : List Nd} {u u' : Value} (h : Rd tyNd w x u) (h' : Rd tyNd w y u') : Rd (Ty.slice tyNd) (w.alloc (.cells #[u, u'] e)) [x, y] (.slice (some ⟨w.heap.size, 0, none⟩) 2 2) := SlP.lit2 (B := Any) trivial h h'
theorem memR_flat {x : T} (hw : x.wf) (hl : x.flat.length ≤ 4000) {s : ByteArray} (hs : wordE s = 0) : memR x.flat s = memB (bt s) s.size x := by
  have he : endsE x.flat s 0 = 0 := by rw [endsE, if_neg (by rw [errW_flat hw hl]; decide), if_neg (by omega), if_pos ⟨by omega, by omega⟩]
  rw [memR, decide_eq_true he, tr_flat hw]
  rfl
theorem good_of {t : List Nd} {s : ByteArray} (h : goodR t s = true) : ∃ x : T, x.wf ∧ t = x.flat ∧ t.length ≤ 1000 ∧ wordE s = 0 ∧ s.size < 512 := by
  unfold goodR at h
  simp only [Bool.and_eq_true, decide_eq_true_eq] at h
  obtain ⟨⟨h1, h2⟩, h3⟩ := h
  obtain ⟨hw, hf⟩ := tr_of (errW_ok h1).2
  exact ⟨tr t, hw, hf.symm, h2, h3, word_size h3⟩
theorem bin_flat (x y : T) (n : Nd) : [x.flat, y.flat].flatten ++ [n] = (T.bin n x y).flat := by simp [T.flat]
theorem un_flat (x : T) (n : Nd) : [x.flat].flatten ++ [n] = (T.un n x).flat := by simp [T.flat]
section
variable {x y : T} {s : ByteArray} (hx : x.wf) (hy : y.wf) (hlx : x.flat.length ≤ 1000) (hly : y.flat.length ≤ 1000) (hs : wordE s = 0)
include hx hlx hs
theorem un_mem (n : Nd) (hg : good n = true) (ha : ar n.k = 1) : memR ([x.flat].flatten ++ [n]) s = memB (bt s) s.size (.un n x) := by
  rw [un_flat, memR_flat (x := .un n x) ⟨hg, ha, hx⟩ (by simp [T.flat]; omega) hs]
include hy hly
theorem bin_mem (n : Nd) (hg : good n = true) (ha : ar n.k = 2) : memR ([x.flat, y.flat].flatten ++ [n]) s = memB (bt s) s.size (.bin n x y) := by
  rw [bin_flat, memR_flat (x := .bin n x y) ⟨hg, ha, hx, hy⟩ (by simp [T.flat]; omega) hs]
end
theorem memB_or (c : Nat → Int) (n : Nat) (x y : T) : memB c n (.bin ⟨5, 0⟩ x y) = (memB c n x || memB c n y) := by rw [← mem_row, ← mem_row, ← mem_row, row_union]
theorem memB_and (c : Nat → Int) (n : Nat) (x y : T) : memB c n (.bin ⟨6, 0⟩ x y) = (memB c n x && memB c n y) := by rw [← mem_row, ← mem_row, ← mem_row, row_inter]
theorem memB_not (c : Nat → Int) (n : Nat) (x : T) : memB c n (.un ⟨9, 0⟩ x) = !memB c n x := by rw [← mem_row, ← mem_row, row_not, decide_eq_true ⟨Nat.zero_le _, Nat.le_refl _⟩, Bool.true_and]
set_option maxHeartbeats 8000000 in
set_option maxRecDepth 100000 in
theorem lawBoole_calls (t u : List Nd) (s : ByteArray) (w : World) (hT : Tab w) (va : Value) (hra : Rd tyNd w t va) (hla : t.length * 16 ≤ 140737488351232) (vb : Value) (hrb : Rd tyNd w u vb) (hlb : u.length * 16 ≤ 140737488351232) (hs : s.size ≤ 140737488351232) :
    Calls Tryd.prog 3 #[va, vb, .string s] w fun e w' => e = .returned (.bool true) ∧ Ext w w' := by
  obtain ⟨A1, c1, rfl, hl1, hm1⟩ := hra.shape
  obtain ⟨A2, c2, rfl, hl2, hm2⟩ := hrb.shape
  have HGa := Lib.hid (good6_calls t _ s w hra (by omega))
  have HGb := Lib.hid (fun w' (hE : Ext w w') => good6_calls u _ s w' (hrb.ext hE) (by omega))
  have HLv := Lib.hid (fun w' (hE : Ext w w') => live6_calls w' (hT.ext hE))
  cases hga : goodR t s with
  | false =>
    rw [hga] at HGa
    clear hga hT hra hrb
    go_enter Tryd.func3, Tryd.ntmps3
    go_wp2_with (first
      | ((go_at_call 7; (with_reducible refine (HGa.out).mono ?_); rintro e w1 ⟨rfl, h1⟩))
      | ((go_at_call 8; (with_reducible refine (HLv.out _ h1).mono ?_); rintro e w2 ⟨rfl, h2⟩)))
    go_ret
    exact ⟨rfl, h1.trans h2⟩
  | true =>
    cases hgb : goodR u s with
    | false =>
      rw [hga] at HGa
      rw [hgb] at HGb
      clear hga hgb hT hra hrb
      go_enter Tryd.func3, Tryd.ntmps3
      go_wp2_with (first
        | ((go_at_call 7; (with_reducible refine (HGa.out).mono ?_); rintro e w1 ⟨rfl, h1⟩))
        | ((go_at_call 7; (with_reducible refine (HGb.out _ h1).mono ?_); rintro e w2 ⟨rfl, h2⟩))
        | ((go_at_call 8; (with_reducible refine (HLv.out _ (h1.trans h2)).mono ?_); rintro e w3 ⟨rfl, h3⟩)))
      go_ret
      exact ⟨rfl, (h1.trans h2).trans h3⟩
    | true =>
      obtain ⟨x, hxw, rfl, hxl, hse, hs5⟩ := good_of hga
      obtain ⟨y, hyw, rfl, hyl, _, _⟩ := good_of hgb
      rw [hga] at HGa
      rw [hgb] at HGb
      have ht1 : (x.flat).length ≤ 4000 := by omega
      have ht2 : (y.flat).length ≤ 4000 := by omega
      have HIa := Lib.hid (fun w' (hE : Ext w w') => in6_calls x.flat _ s w' (hra.ext hE) hs (hT.ext hE))
      have HIb := Lib.hid (fun w' (hE : Ext w w') => in6_calls y.flat _ s w' (hrb.ext hE) hs (hT.ext hE))
      have HIn := Lib.hid (fun (L : List Nd) v w' (hE : Ext w w') (hr : Rd tyNd w' L v) => in6_calls L v s w' hr hs (hT.ext hE))
      rw [memR_flat hxw ht1 hse] at HIa
      rw [memR_flat hyw ht2 hse] at HIb
      have HU : Hid (∀ v w', Rd (Ty.slice tyNd) w' [x.flat, y.flat] v → Calls Tryd.prog 10 #[.agg #[.int .i64 5, .int .u8 0], v] w' (MadePost ([x.flat, y.flat].flatten ++ [⟨5, 0⟩]) w')) := Lib.hid (fun v w' hr => rMade_calls ⟨5, 0⟩ (by decide) [x.flat, y.flat] (by simp; omega) v w' hr (by simp))
      have HI : Hid (∀ v w', Rd (Ty.slice tyNd) w' [x.flat, y.flat] v → Calls Tryd.prog 10 #[.agg #[.int .i64 6, .int .u8 0], v] w' (MadePost ([x.flat, y.flat].flatten ++ [⟨6, 0⟩]) w')) := Lib.hid (fun v w' hr => rMade_calls ⟨6, 0⟩ (by decide) [x.flat, y.flat] (by simp; omega) v w' hr (by simp))
      have HN : Hid (∀ v w', Rd (Ty.slice tyNd) w' [x.flat] v → Calls Tryd.prog 10 #[.agg #[.int .i64 9, .int .u8 0], v] w' (MadePost ([x.flat].flatten ++ [⟨9, 0⟩]) w')) := Lib.hid (fun v w' hr => rMade_calls ⟨9, 0⟩ (by decide) [x.flat] (by simp; omega) v w' hr (by simp))
      have HNN : Hid (∀ v w', Rd (Ty.slice tyNd) w' [[x.flat].flatten ++ [⟨9, 0⟩]] v → Calls Tryd.prog 10 #[.agg #[.int .i64 9, .int .u8 0], v] w' (MadePost ([[x.flat].flatten ++ [⟨9, 0⟩]].flatten ++ [⟨9, 0⟩]) w')) := Lib.hid (fun v w' hr => rMade_calls ⟨9, 0⟩ (by decide) [[x.flat].flatten ++ [⟨9, 0⟩]] (by simp; omega) v w' hr (by simp))
      have MU := Lib.hid ((bin_mem hxw hyw hxl hyl hse ⟨5, 0⟩ (by decide) (by decide)).trans (memB_or _ _ _ _))
      have MI := Lib.hid ((bin_mem hxw hyw hxl hyl hse ⟨6, 0⟩ (by decide) (by decide)).trans (memB_and _ _ _ _))
      have MN := Lib.hid ((un_mem hxw hxl hse ⟨9, 0⟩ (by decide) (by decide)).trans (memB_not _ _ _))
      have MNN : Hid (memR ([[x.flat].flatten ++ [⟨9, 0⟩]].flatten ++ [⟨9, 0⟩]) s = !!memB (bt s) s.size x) := Lib.hid (by
        have e : [[x.flat].flatten ++ [(⟨9, 0⟩ : Nd)]].flatten ++ [⟨9, 0⟩] = (T.un ⟨9, 0⟩ (T.un ⟨9, 0⟩ x)).flat := by simp [T.flat]
        rw [e, memR_flat (x := T.un ⟨9, 0⟩ (T.un ⟨9, 0⟩ x)) ⟨by decide, by decide, by decide, by decide, hxw⟩ (by simp [T.flat]; omega) hse, memB_not, memB_not])
      generalize [[x.flat].flatten ++ [(⟨9, 0⟩ : Nd)]].flatten ++ [⟨9, 0⟩] = L4 at *
      generalize [x.flat].flatten ++ [(⟨9, 0⟩ : Nd)] = L3 at *
      generalize [x.flat, y.flat].flatten ++ [(⟨6, 0⟩ : Nd)] = L2 at *
      generalize [x.flat, y.flat].flatten ++ [(⟨5, 0⟩ : Nd)] = L1 at *
      have HRa := Lib.hid hra
      have HRb := Lib.hid hrb
      generalize memB (bt s) s.size x = a at *
      generalize memB (bt s) s.size y = b at *
      clear hga hgb hT hra hrb ht1 ht2
      cases a <;> cases b
      all_goals
        go_enter Tryd.func3, Tryd.ntmps3
        go_wp2_with (first
          | ((go_at_call 7; (with_reducible refine (HGa.out).mono ?_); rintro e w1 ⟨rfl, h1⟩))
          | ((go_at_call 7; (with_reducible refine (HGb.out _ h1).mono ?_); rintro e w2 ⟨rfl, h2⟩); have E2 := h1.trans h2)
          | ((go_at_call 9; (with_reducible refine (HIa.out _ E2).mono ?_); rintro e w3 ⟨rfl, h3⟩); have E3 := E2.trans h3)
          | ((go_at_call 9; (with_reducible refine (HIb.out _ E3).mono ?_); rintro e w4 ⟨rfl, h4⟩); have E4 := E3.trans h4)
          | ((go_at_call 10; (with_reducible refine (HU.out _ _ (rd_lit2 (HRa.out.ext E4) (HRb.out.ext E4))).mono ?_); rintro e w5 ⟨v5, rfl, ho5, h5⟩); obtain ⟨A5, c5, rfl, _, _⟩ := ho5.shape; have E5 := (E4.alloc _).trans h5)
          | ((go_at_call 10; (with_reducible refine (HI.out _ _ (rd_lit2 (HRa.out.ext E5) (HRb.out.ext E5))).mono ?_); rintro e w6 ⟨v6, rfl, ho6, h6⟩); obtain ⟨A6, c6, rfl, _, _⟩ := ho6.shape; have E6 := (E5.alloc _).trans h6; have h5' := ((Ext.refl w5).alloc _).trans h6)
          | ((go_at_call 10; (with_reducible refine (HN.out _ _ (rd_lit1 (HRa.out.ext E6))).mono ?_); rintro e w7 ⟨v7, rfl, ho7, h7⟩); obtain ⟨A7, c7, rfl, _, _⟩ := ho7.shape; have E7 := (E6.alloc _).trans h7; have h6' := ((Ext.refl w6).alloc _).trans h7)
          | ((go_at_call 10; (with_reducible refine (HNN.out _ _ (rd_lit1 ho7.rd)).mono ?_); rintro e w8 ⟨v8, rfl, ho8, h8⟩); obtain ⟨A8, c8, rfl, _, _⟩ := ho8.shape; have E8 := (E7.alloc _).trans h8; have h7' := ((Ext.refl w7).alloc _).trans h8)
          | ((go_at_call 9; (with_reducible refine (HIn.out L1 _ _ E8 (ho5.rd.ext ((h5'.trans h6').trans h7'))).mono ?_); rintro e w9 ⟨rfl, h9⟩); rw [MU.out]; have E9 := E8.trans h9)
          | ((go_at_call 9; (with_reducible refine (HIn.out L2 _ _ E9 (ho6.rd.ext ((h6'.trans h7').trans h9))).mono ?_); rintro e w10 ⟨rfl, h10⟩); rw [MI.out]; have E10 := E9.trans h10)
          | ((go_at_call 9; (with_reducible refine (HIn.out L3 _ _ E10 (ho7.rd.ext ((h7'.trans h9).trans h10))).mono ?_); rintro e w11 ⟨rfl, h11⟩); rw [MN.out]; have E11 := E10.trans h11)
          | ((go_at_call 9; (with_reducible refine (HIn.out L4 _ _ E11 (ho8.rd.ext ((h9.trans h10).trans h11))).mono ?_); rintro e w12 ⟨rfl, h12⟩); rw [MNN.out]; have E12 := E11.trans h12)
          | ((go_at_call 8; (with_reducible refine (HLv.out _ E12).mono ?_); rintro e w13 ⟨rfl, h13⟩)))
        go_ret
        exact ⟨rfl, E12.trans h13⟩
end Go.Proofs.YtdeppnamhdbbhaaDoor
namespace Go.Eg
open Go.ChangeShapes Go.WideShapes Go.Deep

/-- A datum whose parts are all of bearable size. -/
def Fits {H : Type} (P : Program) (t : TypeId) (d : DataW H) : Prop := ∀ n ∈ d.weights P t, n ≤ reachBytes
/-- What reads by the type te reads as t says; and what is known of its size. -/
def Opens {α : Type} (P : Program) (te : TypeId) (t : Ty α) (bd : α → Prop) : Prop :=
  ∀ {H : Type} (enc : TypeId × Value → H) (w : World) (base : Nat) (spare : Nat → Bool) (held : Bool) (fuel : Nat) (cs : List Value) (x : DataW H × List MemPlace),
    DataW.trod enc P w base spare held fuel te cs = some x → Fits P te x.1 → ∃ y, t.rel Any w y cs ∧ bd y

def IntIn (k : IntKind) (x : Int) : Prop := (Lit.int k x).wf = true
theorem Opens.int {P : Program} {te : TypeId} {k : IntKind} (h : P.underlying te = some (.int k)) : Opens P te (Ty.int k) (IntIn k) := by
  intro H enc w base spare held fuel cs x hx _
  obtain ⟨n, rfl, rfl, hw⟩ := DataW.trod_int h hx
  exact ⟨n, rfl, hw⟩
theorem Opens.str {P : Program} {te : TypeId} (h : P.underlying te = some .string) : Opens P te Ty.str (fun s => s.size ≤ reachBytes) := by
  intro H enc w base spare held fuel cs x hx hf
  obtain ⟨s, rfl, rfl, hw⟩ := DataW.trod_string h hx
  refine ⟨s, rfl, ?_⟩
  have := hf s.data.toList.length (by simp [DataW.weights])
  simpa using this
theorem Opens.bool {P : Program} {te : TypeId} (h : P.underlying te = some .bool) : Opens P te Ty.bool (fun _ => True) := by
  intro H enc w base spare held fuel cs x hx _
  obtain ⟨n, rfl, rfl⟩ := DataW.trod_bool h hx
  exact ⟨n, rfl, trivial⟩

theorem weights_all {H : Type} {P : Program} {e : TypeId} {d : DataW H} : ∀ {l : List (DataW H)}, d ∈ l → ∀ n ∈ d.weights P e, n ∈ DataW.weightsAll P e l
  | a :: l, hm, n, hn => by
    simp only [DataW.weightsAll, List.mem_append]
    rcases List.mem_cons.1 hm with rfl | hm
    · exact .inl hn
    · exact .inr (weights_all hm n hn)

theorem Opens.slice {α : Type} {P : Program} {ts te : TypeId} {t : Ty α} {bd : α → Prop} (ht : P.underlying ts = some (.slice te)) (hc : P.cellsOf te = t.sz) (h0 : 0 < t.sz) (h : Opens P te t bd) :
    Opens P ts (Ty.slice t) (fun xs => xs.length * P.bytesOf te ≤ reachBytes ∧ ∀ x ∈ xs, bd x) := by
  intro H enc w base spare held fuel cs x hx hf
  rcases open_slice ht hx with ⟨rfl, rfl⟩ | ⟨a, len, cap, m, n, D, Pl, rfl, hb, hl, hm, hmm, rfl, hel⟩
  · exact ⟨[], ⟨_, rfl, Rd.nil _ _⟩, by simp⟩
  have hlm : len ≤ m := by rw [hmm]; split <;> omega
  have hfit : len * P.bytesOf te ≤ reachBytes := by
    have := hf ((len + (m - len)) * P.bytesOf te) (by simp [DataW.weights, ht])
    exact Nat.le_trans (Nat.mul_le_mul_right _ (by omega)) this
  have each : ∀ i, i < len → ∃ y : α, (∃ cs', t.rel Any w y cs' ∧ w.cells? base (a.add (i * P.cellsOf te)) (P.cellsOf te) = some cs') ∧ bd y := fun i hi => by
    obtain ⟨cs', h1, h2⟩ := hel i (by omega)
    obtain ⟨y, hy, hby⟩ := h enc w base spare held n cs' _ h2 (fun k hk => hf k (by
      simp only [DataW.weights, ht, List.mem_cons, List.mem_append]
      exact .inr (.inl (weights_all (d := D i) (List.mem_map.2 ⟨i, List.mem_range.2 hi, rfl⟩) k hk))))
    exact ⟨y, ⟨cs', hy, h1⟩, hby⟩
  have build : ∀ k, k ≤ len → ∃ ys : List α, ys.length = k ∧ ∀ i y, ys[i]? = some y → (∃ cs', t.rel Any w y cs' ∧ w.cells? base (a.add (i * P.cellsOf te)) (P.cellsOf te) = some cs') ∧ bd y := fun k => by
    induction k with
    | zero => exact fun _ => ⟨[], rfl, fun i y hy => by simp at hy⟩
    | succ k ih =>
      intro hk
      obtain ⟨ys, hy, hys⟩ := ih (by omega)
      obtain ⟨y, hy'⟩ := each k (by omega)
      refine ⟨ys ++ [y], by simp [hy], fun i z hz => ?_⟩
      rw [List.getElem?_append] at hz
      split at hz
      · exact hys i z hz
      · rename_i hge
        have hz0 : i - ys.length = 0 := by have := (List.getElem?_eq_some_iff.1 hz).1; simp at this; omega
        rw [hz0] at hz
        cases hz
        have : i = k := by omega
        subst this
        exact hy'
  obtain ⟨ys, hyl, hys⟩ := build len (Nat.le_refl _)
  refine ⟨ys, ⟨_, rfl, some a, cap, by rw [hyl], by omega, hm, fun hne => ?_⟩, by rw [hyl]; exact hfit, fun y hy => ?_⟩
  · have hpos : 0 < len := by rw [← hyl]; exact List.length_pos_iff.2 hne
    obtain ⟨⟨cs0, hr0, hc0⟩, _⟩ := hys 0 ys[0] (List.getElem?_eq_getElem (by omega))
    obtain ⟨_, hl0, hat⟩ := World.cells?_some hc0
    have h00 := hat 0 (by omega)
    have hspot : a.spot = none := by
      cases hs : a.spot with
      | none => rfl
      | some k =>
        have : (w.cell? a) = none := by
          unfold World.cell?
          split
          · simp [hs]
          · rfl
        simp only [Nat.zero_mul] at h00
        rw [show (a.add 0).add 0 = a from rfl, this] at h00
        rw [List.getElem?_eq_getElem (by omega)] at h00
        cases h00
    obtain ⟨b, off, sp⟩ := a
    cases hspot
    have hlt : b < w.heap.size := by
      rw [List.getElem?_eq_getElem (by omega)] at h00
      have h1 := World.block_lt_of_cell? w _ h00
      simpa [Addr.add, apply_ite Addr.block] using h1
    refine ⟨b, off, rfl, trivial, hlt, fun i y hy => ?_⟩
    obtain ⟨⟨cs', hr, hcs⟩, _⟩ := hys i y hy
    obtain ⟨_, hl', hat'⟩ := World.cells?_some hcs
    refine ⟨cs', hr, fun j u hu => ?_⟩
    have hj : j < cs'.length := (List.getElem?_eq_some_iff.1 hu).1
    have := hat' j (by omega)
    rw [hu, add_add] at this
    rw [← this, hc]
    congr 1
    unfold Addr.add
    split
    · rename_i h
      rw [Nat.add_assoc, h, Nat.add_zero]
    · rw [Nat.add_assoc]
  · obtain ⟨i, hi⟩ := List.getElem?_of_mem hy
    exact (hys i y hi).2

/-- An argument that is a slice. -/
theorem arg_slice {α H : Type} {P : Program} {ts te : TypeId} {t : Ty α} {bd : α → Prop} (ht : P.underlying ts = some (.slice te)) (hc : P.cellsOf te = t.sz) (h0 : 0 < t.sz) (h : Opens P te t bd)
    {enc : TypeId × Value → H} {w : World} {r : Reach} {base b0 : Nat} {spare : Nat → Bool} {held : Bool} {v : Value} {d : DataW H} {ps : List MemPlace}
    (hv : Value.okWide P w r b0 ts v) (hd : DataW.Trod enc P w base spare held ts v d ps) (hf : Fits P ts d) :
    ∃ xs, Rd t w xs v ∧ xs.length * P.bytesOf te ≤ reachBytes ∧ ∀ x ∈ xs, bd x := by
  obtain ⟨a, len, cap, rfl⟩ := okWide_slice ht hv
  obtain ⟨fuel, hx⟩ := hd
  obtain ⟨xs, ⟨v, e, hr⟩, hb⟩ := (Opens.slice ht hc h0 h) enc w base spare held fuel _ _ hx hf
  cases e
  exact ⟨xs, hr, hb⟩
theorem fits_each {H : Type} {P : Program} {ts : List TypeId} {ds : List (DataW H)} (h : (DataW.weightsEach P ts ds).all (· ≤ reachBytes) = true) {j : Nat} {t : TypeId} {d : DataW H} (ht : ts[j]? = some t) (hd : ds[j]? = some d) : Fits P t d :=
  fun n hn => by simpa using List.all_eq_true.1 h _ (DataW.weights_mem_each ht hd n hn)
theorem trod_low {H : Type} {enc : TypeId × Value → H} {P : Program} {w : World} {base : Nat} {spare : Nat → Bool} {held : Bool} {t : TypeId} {v : Value} {d : DataW H} {ps : List MemPlace} (h : DataW.Trod enc P w base spare held t v d ps) : ∀ x ∈ ps, x.block < w.heap.size := by
  obtain ⟨m, hm⟩ := h
  exact DataW.trod_lt m _ _ _ hm
end Go.Eg
namespace Go.Proofs.YtdeppnamhdbbhaaDoor
open Go.RowKit Go.Eg Go.ChangeShapes Go.WideShapes

theorem opens_nd : Opens Tryd.prog 27 tyNd (fun _ => True) := by
  intro H enc w base spare held fuel cs x hx _
  obtain ⟨xs, n, hn, hxy, hl, hxl, hf⟩ := DataW.trod_struct Tryd.underlying27 hx
  have hc : Tryd.prog.cellsOf 27 = 2 := by kernel_rfl
  rw [hc] at hl
  match xs, hxl, cs, hl with
  | [y0, y1], _, [v0, v1], _ =>
    have g0 := hf 0 _ rfl
    have g1 := hf 1 _ rfl
    have c0 : Tryd.prog.cellsOf 3 = 1 := by kernel_rfl
    have c1 : Tryd.prog.cellsOf 5 = 1 := by kernel_rfl
    simp [c0, c1] at g0 g1
    obtain ⟨a, e0, _, _⟩ := DataW.trod_int Tryd.underlying3 g0
    obtain ⟨b, e1, _, hb⟩ := DataW.trod_int Tryd.underlying5 g1
    cases e0
    cases e1
    refine ⟨⟨a, b⟩, ⟨rfl, ?_⟩, trivial⟩
    simp [Lit.wf, IntKind.min, IntKind.max] at hb
    simp [IntKind.signed, IntKind.bits] at hb
    exact hb
theorem arg_nodes {H : Type} {enc : TypeId × Value → H} {w : World} {r : Reach} {base b0 : Nat} {spare : Nat → Bool} {held : Bool} {v : Value} {d : DataW H} {ps : List MemPlace}
    (hv : Value.okWide Tryd.prog w r b0 22 v) (hd : DataW.Trod enc Tryd.prog w base spare held 22 v d ps) (hf : Fits Tryd.prog 22 d) :
    ∃ xs, Rd tyNd w xs v ∧ xs.length * 16 ≤ 140737488351232 := by
  obtain ⟨xs, hr, hl, _⟩ := arg_slice (t := tyNd) Tryd.underlying22 (by kernel_rfl) (by decide) opens_nd hv hd hf
  have hb : Tryd.prog.bytesOf 27 = 16 := by kernel_rfl
  rw [hb] at hl
  exact ⟨xs, hr, hl⟩
theorem arg_trees {H : Type} {enc : TypeId × Value → H} {w : World} {r : Reach} {base b0 : Nat} {spare : Nat → Bool} {held : Bool} {v : Value} {d : DataW H} {ps : List MemPlace}
    (hv : Value.okWide Tryd.prog w r b0 53 v) (hd : DataW.Trod enc Tryd.prog w base spare held 53 v d ps) (hf : Fits Tryd.prog 53 d) :
    ∃ xs, Rd (Ty.slice tyNd) w xs v ∧ xs.length * 24 ≤ 140737488351232 ∧ ∀ x ∈ xs, x.length * 16 ≤ 140737488351232 := by
  obtain ⟨xs, hr, hl, hx⟩ := arg_slice (t := Ty.slice tyNd) Tryd.underlying53 (by kernel_rfl) (by decide) (Opens.slice Tryd.underlying22 (by kernel_rfl) (by decide) opens_nd) hv hd hf
  have hb : Tryd.prog.bytesOf 27 = 16 := by kernel_rfl
  have hb' : Tryd.prog.bytesOf 22 = 24 := by kernel_rfl
  rw [hb'] at hl
  refine ⟨xs, hr, hl, fun x hm => ?_⟩
  have := (hx x hm).1
  rw [hb] at this
  exact this
theorem arg_node {H : Type} {enc : TypeId × Value → H} {w : World} {r : Reach} {base b0 : Nat} {spare : Nat → Bool} {held : Bool} {v : Value} {d : DataW H} {ps : List MemPlace}
    (hv : Value.okWide Tryd.prog w r b0 27 v) (hd : DataW.Trod enc Tryd.prog w base spare held 27 v d ps) (hf : Fits Tryd.prog 27 d) :
    ∃ n : Nd, v = .agg #[.int .i64 n.k, .int .u8 n.s] ∧ 0 ≤ n.s ∧ n.s ≤ 255 := by
  obtain ⟨cs, rfl, -⟩ := okWide_struct Tryd.underlying27 hv
  obtain ⟨fuel, hx⟩ := hd
  obtain ⟨n, ⟨e, hs⟩, -⟩ := opens_nd enc w base spare held fuel _ _ hx hf
  refine ⟨n, ?_, hs⟩
  have e' : cs.toList = [.int .i64 n.k, .int .u8 n.s] := e
  obtain ⟨l⟩ := cs
  cases e'
  rfl
theorem arg_int {H : Type} {enc : TypeId × Value → H} {w : World} {r : Reach} {base b0 : Nat} {spare : Nat → Bool} {held : Bool} {v : Value} {d : DataW H} {ps : List MemPlace}
    (hv : Value.okWide Tryd.prog w r b0 3 v) (hd : DataW.Trod enc Tryd.prog w base spare held 3 v d ps) (_ : Fits Tryd.prog 3 d) : ∃ x, v = .int .i64 x ∧ IntIn .i64 x := by
  obtain ⟨a, rfl, rfl, rfl, hw⟩ := open_int Tryd.underlying3 hv hd
  exact ⟨a, rfl, hw⟩
theorem arg_str {H : Type} {enc : TypeId × Value → H} {w : World} {r : Reach} {base b0 : Nat} {spare : Nat → Bool} {held : Bool} {v : Value} {d : DataW H} {ps : List MemPlace}
    (hv : Value.okWide Tryd.prog w r b0 9 v) (hd : DataW.Trod enc Tryd.prog w base spare held 9 v d ps) (hf : Fits Tryd.prog 9 d) : ∃ x : ByteArray, v = .string x ∧ x.size ≤ 140737488351232 := by
  obtain ⟨s, rfl⟩ := okWide_string Tryd.underlying9 hv
  obtain ⟨fuel, hx⟩ := hd
  obtain ⟨x, e, hs⟩ := Opens.str Tryd.underlying9 enc w base spare held fuel _ _ hx hf
  cases e
  exact ⟨s, rfl, hs⟩
end Go.Proofs.YtdeppnamhdbbhaaDoor
namespace Go.Proofs.YtdeppnamhdbbhaaDoor
open Go.ChangeShapes Go.WideShapes Go.ChangeAt Go.RowKit Go.Eg

def tabLaid : List (String × DataW Unit) := [("math/bits.deBruijn64tab", Rows.laid_math_bits_deBruijn64tab)]
theorem gTab : Tryd.prog.globalNamed "math/bits.deBruijn64tab" = some 0 := by kernel_rfl
theorem tTab : (Tryd.prog.globals[0]?).map (·.type) = some 81 := by kernel_rfl
/-- The door's own heap meets the condition. -/
theorem door_met (os : Os) (args : Array Value) : laidMetH Tryd.prog tabLaid ((World.doorLaid Tryd.prog 400 os).forCall (fun _ _ => 0) ⟨#[], args, []⟩).memory :=
  laidMetH_of_parts3 (fuel := 8) (laidMet_of_run' 8 (by kernel_rfl) (by kernel_rfl)) (by kernel_rfl) (by kernel_rfl)
theorem tab_datum : (Rows.laid_math_bits_deBruijn64tab : DataW Unit) = .agg (Lib.deBruijn64tab.map fun n => .lit (.int .u8 (n : Nat))) := rfl
theorem tab_of_laid {W : World} (h : laidMetH Tryd.prog tabLaid W) : Tab W := by
  rw [MakeChecks.laidMetH_plain _ _ _ (by kernel_rfl)] at h
  obtain ⟨ps, ⟨g0, t0, cs0, f0, p0, q0, hg0, ht0, hv0, hd0, _, _⟩, _, _⟩ := h
  obtain rfl := Option.some.inj (gTab.symm.trans hg0)
  obtain rfl := Option.some.inj (tTab.symm.trans ht0)
  obtain ⟨xs, m1, rfl, hx1, hlen, hn3, hel⟩ := DataW.trod_array Tryd.underlying81 hd0
  have c1 : Tryd.prog.cellsOf 5 = 1 := by kernel_rfl
  rw [tab_datum] at hx1
  simp only [Prod.mk.injEq, DataW.agg.injEq] at hx1
  intro j hj
  rw [tab_len] at hj
  have h0 := hel j hj
  have h1 := congrArg (fun l => l[j]?) hx1.1
  simp only [List.getElem?_map] at h1
  rw [List.getElem?_eq_getElem (by rw [tab_len]; exact hj), ← h0, c1] at h1
  cases hy : DataW.trod (fun _ => ()) Tryd.prog W 0 _ false m1 5 (List.take 1 (List.drop (j * 1) cs0.toList)) with
  | none => rw [hy] at h1; cases h1
  | some y =>
    rw [hy] at h1
    obtain ⟨k, e1, e2, _⟩ := DataW.trod_int Tryd.underlying5 hy
    subst e2
    simp only [Option.map_some, Option.some.injEq, DataW.lit.injEq, Lit.int.injEq, true_and] at h1
    have hc := World.var?_cell hg0 hv0 j
    have e3 := congrArg (fun l => l[0]?) e1
    rw [Nat.mul_one] at e3
    simp only [List.getElem?_take, List.getElem?_drop, Nat.add_zero] at e3
    have hj2 : j < Lib.deBruijn64tab.length := by rw [tab_len]; exact hj
    rw [List.getD_eq_getElem?_getD, List.getElem?_eq_getElem hj2, Option.getD_some, h1]
    have hc' : W.cell? ⟨0, j, none⟩ = cs0[j]? := by simpa using hc
    rw [hc']
    simpa using e3
end Go.Proofs.YtdeppnamhdbbhaaDoor
