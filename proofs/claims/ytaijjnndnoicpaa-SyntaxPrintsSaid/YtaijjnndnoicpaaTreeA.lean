/- Walks of package tree: parts, good, wrong: each comes to the Lean function that is named. Conditions: none beyond what a slice reads as. -/
import Derived.Test.YtaijjnndnoicpaaProg
import Derived.Test.YtaijjnndnoicpaaEgLib
import Derived.Test.YtaijjnndnoicpaaTreeM
import Derived.Lib.Hide
import Derived.Deep.QuietTactic
import Derived.BigQuiet
namespace Go.Proofs.Ytaijjnndnoicpaa
open Go.RowKit Go.Eg

def tyNd : Ty Nd := .flatP 2 (fun n => [.int .i64 n.k, .int .u8 n.s]) (fun n => 0 ≤ n.s ∧ n.s ≤ 255) (fun _ => rfl) (by simp [Value.oneCell'])
theorem rd_node {w : World} {t : List Nd} {A : Option Addr} {n c : Nat} (h : Rd tyNd w t (.slice A n c)) {i : Nat} (hi : i < t.length) :
    ∃ b off, A = some ⟨b, off, none⟩ ∧ b < w.heap.size ∧ w.cell? ⟨b, off + i * 2, none⟩ = some (.int .i64 (nth t i).k) ∧ w.cell? ⟨b, off + i * 2 + 1, none⟩ = some (.int .u8 (nth t i).s) := by
  obtain ⟨b, off, cs, e, hb, ⟨rfl, _⟩, ha⟩ := h.at (nth_get hi)
  exact ⟨b, off, e, hb, ha 0 _ rfl, ha 1 _ rfl⟩

theorem rd_byte {w : World} {t : List Nd} {v : Value} (h : Rd tyNd w t v) {i : Nat} (hi : i < t.length) : 0 ≤ (nth t i).s ∧ (nth t i).s ≤ 255 := by
  obtain ⟨A, c, rfl, _⟩ := h.shape
  obtain ⟨b, off, cs, e, hb, ⟨rfl, h⟩, ha⟩ := h.at (nth_get hi)
  exact h
theorem ar_tab (k : Int) (h0 : 0 ≤ k) (h1 : k < 10) (h : k.toNat < 10) : ([.int .i64 (-1), .int .i64 0, .int .i64 0, .int .i64 0, .int .i64 0, .int .i64 2, .int .i64 2, .int .i64 2, .int .i64 1, .int .i64 1] : List Value)[k.toNat]'h = .int .i64 (ar k) := by
  obtain ⟨n, rfl⟩ := Int.eq_ofNat_of_zero_le h0
  simp only [Int.toNat_natCast]
  have : n < 10 := by omega
  match n, this with
  | 0, _ | 1, _ | 2, _ | 3, _ | 4, _ | 5, _ | 6, _ | 7, _ | 8, _ | 9, _ => rfl

set_option maxHeartbeats 400000 in
theorem parts_calls (k : Int) (w : World) : Calls Try.prog 49 #[.int .i64 k] w fun e w' => e = .returned (.int .i64 (ar k)) ∧ Ext w w' := by
  go_enter Try.func49, Try.ntmps49
  go_wp2
  · go_ret
    exact ⟨ret_int (by unfold ar; (repeat' split) <;> omega), (Ext.refl _).alloc _⟩
  · rw [ar_tab k (by omega) (by omega)]
    go_ret
    exact ⟨rfl, (Ext.refl _).alloc _⟩
  · go_ret
    exact ⟨ret_int (by unfold ar; (repeat' split) <;> omega), (Ext.refl _).alloc _⟩

set_option maxHeartbeats 400000 in
theorem good_calls (n : Nd) (w : World) : Calls Try.prog 48 #[.agg #[.int .i64 n.k, .int .u8 n.s]] w fun e w' => e = .returned (.bool (good n)) ∧ Ext w w' := by
  obtain ⟨k, s⟩ := n
  unfold good
  dsimp only
  by_cases h3 : k = 3
  · have h3' : (k == 3) = true := by simp [h3]
    rw [if_pos h3]
    go_enter Try.func48, Try.ntmps48
    go_wp2_with fail
    all_goals go_ret
    · exact ⟨ret_bool (by simp [*]), (Ext.refl _).alloc _⟩
    · exact ⟨ret_bool (by simp; omega), (Ext.refl _).alloc _⟩
  · have h3' : (k == 3) = false := by simp [h3]
    rw [if_neg h3]
    go_enter Try.func48, Try.ntmps48
    go_wp2_with (go_at_call 49; refine (parts_calls _ _).mono ?_; rintro e w' ⟨rfl, hb⟩)
    all_goals go_ret
    · exact ⟨ret_bool (by simp [*]), ((Ext.refl _).alloc _).trans hb⟩
    · exact ⟨ret_bool (by simp [*]), (Ext.refl _).alloc _⟩

set_option maxHeartbeats 400000 in
theorem wrong_calls (t : List Nd) (v : Value) (w : World) (hr : Rd tyNd w t v) : Calls Try.prog 37 #[v] w fun e w' => e = .returned (.int .i64 (errW t)) ∧ Ext w w' := by
  obtain ⟨A, c, rfl, hlc, hcm⟩ := hr.shape
  unfold maxLen at hcm
  by_cases hbig : 4000 < t.length
  · have hb' : decide (4000 < (t.length : Int)) = true := by simp; omega
    go_enter Try.func37, Try.ntmps37
    go_wp2_with fail
    go_ret
    exact ⟨ret_int (by rw [errW, if_pos hbig]), Ext.refl _⟩
  · have hb' : decide (4000 < (t.length : Int)) = false := by simp; omega
    have HE : Hid (errW t = if ok 0 t then 0 else 30) := if_neg hbig
    go_enter Try.func37, Try.ntmps37
    go_wp2_with fail
    go_loopw [3, 11] (fun v3 v11 wr => ∃ (i : Nat) (h : Int), v3 = .int .i64 h ∧ v11 = .int .i64 i ∧ i ≤ t.length ∧ -4001 ≤ h - i ∧ h ≤ 2 * i ∧ Hid (ok h (t.drop i) = ok 0 t) ∧ Ext w wr) (fun _ v11 _ => t.length - (intOf v11).toNat)
    case atStart => exact ⟨0, 0, rfl, rfl, by omega, by omega, by omega, rfl, Ext.refl _⟩
    case round =>
      obtain ⟨i, h, rfl, rfl, hi, hh1, hh2, HO, he⟩ := hrel
      by_cases hlt : i < t.length
      · obtain ⟨b, off, rfl, hb, hc0, hc1⟩ := rd_node (hr.ext he) hlt
        have HT := Lib.hid (ok_take (h := h) hlt)
        have har := ar_le (nth t i).k
        clear hr
        generalize nth t i = n at *
        have arm : True := trivial
        by_cases hg : good n = true
        · by_cases hle : ar n.k ≤ h
          · have hle' : decide (h < ar n.k) = false := by simp; omega
            go_wp2_with (first | ((go_at_call 48; (with_reducible refine (good_calls n _).mono ?_); rintro e w1 ⟨rfl, h1⟩); have h1c := h1.cells; have h1z : wr.heap.size < w1.heap.size := Nat.lt_of_lt_of_le (by simp) h1.le) | ((go_at_call 49; (with_reducible refine (parts_calls _ _).mono ?_); rintro e w2 ⟨rfl, h2⟩); have h2c := h2.cells; have h2z : wr.heap.size < w2.heap.size := Nat.lt_of_lt_of_le (by assumption) h2.le))
            go_roundw
            case rel => exact ⟨i + 1, _, rfl, by go_num, by omega, by omega, by omega, (by have := HT.out; simp only [hg, hle, decide_true, Bool.true_and] at this; exact this.symm.trans HO.out), by (repeat (first | assumption | exact Ext.refl _ | apply Ext.alloc | apply Ext.drew | apply Ext.drewN | refine Ext.trans ?_ (by assumption)))⟩
            case measure => simp [intOf]; omega
          · have hle' : decide (h < ar n.k) = true := by simp; omega
            have hf : ok 0 t = false := by rw [← HO.out, HT.out]; simp [hle]
            have HE' := Lib.hid (HE.out.trans (by rw [hf]; rfl : _ = (30 : Int)))
            clear hf
            go_wp2_with (first | ((go_at_call 48; (with_reducible refine (good_calls n _).mono ?_); rintro e w1 ⟨rfl, h1⟩); have h1c := h1.cells; have h1z : wr.heap.size < w1.heap.size := Nat.lt_of_lt_of_le (by simp) h1.le) | ((go_at_call 49; (with_reducible refine (parts_calls _ _).mono ?_); rintro e w2 ⟨rfl, h2⟩); have h2c := h2.cells; have h2z : wr.heap.size < w2.heap.size := Nat.lt_of_lt_of_le (by assumption) h2.le))
            go_ret
            exact ⟨ret_int HE'.out.symm, by (repeat (first | assumption | exact Ext.refl _ | apply Ext.alloc | apply Ext.drew | apply Ext.drewN | refine Ext.trans ?_ (by assumption)))⟩
        · have hf : ok 0 t = false := by rw [← HO.out, HT.out]; simp [hg]
          have hg' : good n = false := by simpa using hg
          have HE' := Lib.hid (HE.out.trans (by rw [hf]; rfl : _ = (30 : Int)))
          clear hf
          go_wp2_with (first | ((go_at_call 48; (with_reducible refine (good_calls n _).mono ?_); rintro e w1 ⟨rfl, h1⟩); have h1c := h1.cells))
          go_ret
          exact ⟨ret_int HE'.out.symm, by (repeat (first | assumption | exact Ext.refl _ | apply Ext.alloc | apply Ext.drew | apply Ext.drewN | refine Ext.trans ?_ (by assumption)))⟩
      · have hi' : i = t.length := by omega
        subst hi'
        have HF : Hid (ok 0 t = (h == 1)) := by show _ = _; rw [← HO.out, List.drop_length, ok]
        by_cases h1 : h = 1
        · have h1' : (h != 1) = false := by simp [h1]
          go_wp2_with fail
          go_ret
          exact ⟨ret_int (by rw [HE.out, HF.out]; simp [h1]), by (repeat (first | assumption | exact Ext.refl _ | apply Ext.alloc | apply Ext.drew | apply Ext.drewN | refine Ext.trans ?_ (by assumption)))⟩
        · have h1' : (h != 1) = true := by simp [h1]
          go_wp2_with fail
          go_ret
          exact ⟨ret_int (by rw [HE.out, HF.out]; simp [h1]), by (repeat (first | assumption | exact Ext.refl _ | apply Ext.alloc | apply Ext.drew | apply Ext.drewN | refine Ext.trans ?_ (by assumption)))⟩
end Go.Proofs.Ytaijjnndnoicpaa
