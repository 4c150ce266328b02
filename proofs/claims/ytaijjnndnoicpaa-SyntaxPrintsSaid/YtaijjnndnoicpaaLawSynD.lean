/- Walks of chapter 4's laws SyntaxBack, SyntaxRead. Conditions: none beyond what the arguments are. -/
import Derived.Test.YtaijjnndnoicpaaLawSynB
import Derived.Test.YtaijjnndnoicpaaSynW
import Derived.Test.YtaijjnndnoicpaaKeepB
namespace Go.Proofs.Ytaijjnndnoicpaa
open Go.RowKit Go.Eg

/-- What Print answers, the answer under a name. -/
theorem print_at (k : Int) (t : List Nd) (R : Int × List Int) (hR : R = printF k t) (v : Value) (W : World) (hr : Rd tyNd W t v) :
    Calls Try.prog 16 #[.int .i64 k, v] W fun e w' => e = .returned (.tuple #[.string (txt R.2), .int .i64 R.1]) ∧ Ext W w' := by
  subst hR; exact Print_calls k t v W hr

set_option maxHeartbeats 4000000 in
set_option maxRecDepth 100000 in
theorem SyntaxBack_calls (k : Int) (t : List Nd) (w : World) (hk : IntIn .i64 k) (v : Value) (ht : Rd tyNd w t v) (lt : t.length * 16 ≤ 140737488351232) :
    Calls Try.prog 5 #[.int .i64 k, v] w fun e w' => e = .returned (.bool true) ∧ Ext w w' := by
  obtain ⟨R, hR⟩ : ∃ R, R = printF k t := ⟨_, rfl⟩
  have HL := Lib.hid (lentNodes_calls t v w ht lt)
  have HP := Lib.hid (print_at k t R hR)
  by_cases h0 : R.1 = 0
  · have hb := back (k := k) (t := t) (by rw [← hR]; exact h0)
    rw [← hR] at hb
    have HQ := Lib.hid (parse_at k (txt R.2) (0, 0, t) hb.symm)
    clear hb hR
    obtain ⟨e, l⟩ := R
    dsimp only at *
    subst h0
    generalize txt l = u at *
    go_enter Try.func5, Try.ntmps5
    go_wp2_with (first
      | ((go_at_call 15; (with_reducible refine (HL.out).mono ?_); rintro e w1 ⟨g1, c1, rfl, hs1, h1⟩))
      | ((go_at_call 16; (with_reducible refine (HP.out _ _ hs1.rd).mono ?_); rintro e w2 ⟨rfl, h2⟩))
      | ((go_at_call 9; (with_reducible refine (HQ.out _).mono ?_); rintro e w3 ⟨v3, rfl, ho3, h3⟩); have hx3 : Ext w w3 := (h1.trans h2).trans h3)
      | ((go_at_call 12; (with_reducible refine (num_calls _ _).mono ?_); rintro e w' ⟨rfl, hw⟩; obtain rfl := hw.symm))
      | ((go_at_call 11; (with_reducible refine (sameNodes_calls t t _ _ _ ho3.rd (ht.ext hx3)).mono ?_); rintro e w4 ⟨rfl, h4⟩); rw [decide_eq_true rfl])
      | ((go_at_call 14; (with_reducible refine (live_calls _).mono ?_); rintro e w5 ⟨rfl, h5⟩)))
    go_ret
    exact ⟨rfl, by (repeat (first | assumption | exact Ext.refl _ | apply Ext.alloc | apply Ext.drew | apply Ext.drewN | refine Ext.trans ?_ (by assumption)))⟩
  · have hb := print_err (k := k) (t := t) (by rw [← hR]; exact h0)
    rw [← hR] at hb
    clear hR
    obtain ⟨e, l⟩ := R
    dsimp only at *
    subst hb
    have h0' : (e != 0) = true := by simp [h0]
    rw [show txt [] = ⟨#[]⟩ from rfl] at HP
    go_enter Try.func5, Try.ntmps5
    go_wp2_with (first
      | ((go_at_call 15; (with_reducible refine (HL.out).mono ?_); rintro e w1 ⟨g1, c1, rfl, hs1, h1⟩))
      | ((go_at_call 16; (with_reducible refine (HP.out _ _ hs1.rd).mono ?_); rintro e w2 ⟨rfl, h2⟩))
      | ((go_at_call 12; (with_reducible refine (num_calls _ _).mono ?_); rintro e w' ⟨rfl, hw⟩; obtain rfl := hw.symm))
      | ((go_at_call 14; (with_reducible refine (live_calls _).mono ?_); rintro e w5 ⟨rfl, h5⟩)))
    go_ret
    exact ⟨rfl, by (repeat (first | assumption | exact Ext.refl _ | apply Ext.alloc | apply Ext.drew | apply Ext.drewN | refine Ext.trans ?_ (by assumption)))⟩

set_option maxHeartbeats 4000000 in
set_option maxRecDepth 100000 in
theorem SyntaxRead_calls (k : Int) (s : ByteArray) (w : World) (hk : IntIn .i64 k) (hs : s.size ≤ 140737488351232) :
    Calls Try.prog 6 #[.int .i64 k, .string s] w fun e w' => e = .returned (.bool true) ∧ Ext w w' := by
  obtain ⟨P, hP⟩ : ∃ P, P = parseP k (bt s) s.size := ⟨_, rfl⟩
  have HP := Lib.hid (parse_at k s P hP)
  by_cases h0 : P.1 = 0
  · have hrp := read_print (k := k) (c := bt s) (n := s.size) (by rw [← hP]; exact h0)
    rw [← hP] at hrp
    clear hP
    obtain ⟨e, p, t⟩ := P
    dsimp only at *
    subst h0
    obtain ⟨R, hR⟩ : ∃ R, R = printF k t := ⟨_, rfl⟩
    have HR := Lib.hid (print_at k t R hR)
    rw [← hR] at hrp
    rcases hrp with hrp | ⟨hr0, hrl⟩
    · subst hrp
      clear hR
      go_enter Try.func6, Try.ntmps6
      go_wp2_with (first
        | ((go_at_call 9; (with_reducible refine (HP.out _).mono ?_); rintro e w1 ⟨v1, rfl, ho1, h1⟩))
        | ((go_at_call 16; (with_reducible refine (HR.out _ _ ho1.rd).mono ?_); rintro e w2 ⟨rfl, h2⟩))
        | ((go_at_call 12; (with_reducible refine (num_calls _ _).mono ?_); rintro e w' ⟨rfl, hw⟩; obtain rfl := hw.symm))
        | ((go_at_call 14; (with_reducible refine (live_calls _).mono ?_); rintro e w5 ⟨rfl, h5⟩)))
      go_ret
      exact ⟨rfl, by (repeat (first | assumption | exact Ext.refl _ | apply Ext.alloc | apply Ext.drew | apply Ext.drewN | refine Ext.trans ?_ (by assumption)))⟩
    · have hb := back (k := k) (t := t) (by rw [← hR]; exact hr0)
      rw [← hR] at hb
      have HQ := Lib.hid (parse_at k (txt R.2) (0, 0, t) hb.symm)
      clear hb hR
      obtain ⟨e, l⟩ := R
      dsimp only at *
      subst hr0
      have HL := Lib.hid hrl
      have hsz := txt_size l
      clear hrl
      generalize txt l = u at *
      go_enter Try.func6, Try.ntmps6
      go_wp2_with (first
        | ((go_at_call 9; (with_reducible refine (HP.out _).mono ?_); rintro e w1 ⟨v1, rfl, ho1, h1⟩))
        | ((go_at_call 16; (with_reducible refine (HR.out _ _ ho1.rd).mono ?_); rintro e w2 ⟨rfl, h2⟩))
        | ((go_at_call 9; (with_reducible refine (HQ.out _).mono ?_); rintro e w3 ⟨v3, rfl, ho3, h3⟩))
        | ((go_at_call 12; (with_reducible refine (num_calls _ _).mono ?_); rintro e w' ⟨rfl, hw⟩; obtain rfl := hw.symm))
        | ((go_at_call 11; (with_reducible refine (sameNodes_calls t t _ _ _ ((ho1.rd.ext h2).ext h3) ho3.rd).mono ?_); rintro e w4 ⟨rfl, h4⟩); rw [decide_eq_true rfl]))
      have hx4 : Ext w w4 := by (repeat (first | assumption | exact Ext.refl _ | apply Ext.alloc | apply Ext.drew | apply Ext.drewN | refine Ext.trans ?_ (by assumption)))
      go_loopw [13] (fun v13 wr => ∃ i : Nat, v13 = .int .i64 i ∧ i ≤ s.size ∧ Hid (∀ j, j < i → bt s j ≠ 63 ∧ bt s j ≠ 45) ∧ wr = w4) (fun v13 _ => s.size - (intOf v13).toNat)
      case atStart => exact ⟨0, rfl, by omega, Lib.hid (fun j h => by omega), rfl⟩
      case round =>
        obtain ⟨i, rfl, hi, HI, rfl⟩ := hrel
        by_cases hlt : i < s.size
        · have hbt := bt_at s i hlt
          by_cases h63 : bt s i = 63
          · rw [h63] at hbt
            go_wp2_with ((go_at_call 14; (with_reducible refine (live_calls _).mono ?_); rintro e w5 ⟨rfl, h5⟩))
            go_ret
            exact ⟨rfl, by (repeat (first | assumption | exact Ext.refl _ | apply Ext.alloc | apply Ext.drew | apply Ext.drewN | refine Ext.trans ?_ (by assumption)))⟩
          · by_cases h45 : bt s i = 45
            · rw [h45] at hbt
              go_wp2_with ((go_at_call 14; (with_reducible refine (live_calls _).mono ?_); rintro e w5 ⟨rfl, h5⟩))
              go_ret
              exact ⟨rfl, by (repeat (first | assumption | exact Ext.refl _ | apply Ext.alloc | apply Ext.drew | apply Ext.drewN | refine Ext.trans ?_ (by assumption)))⟩
            · have HJ : Hid (∀ j, j < i + 1 → bt s j ≠ 63 ∧ bt s j ≠ 45) := Lib.hid (fun j hj => by
                rcases Nat.lt_or_ge j i with h | h
                · exact HI.out j h
                · obtain rfl : j = i := by omega
                  exact ⟨h63, h45⟩)
              have e1 : ((s[i]'hlt).toNat : Int) ≠ 63 := by rw [hbt]; exact h63
              have e2 : ((s[i]'hlt).toNat : Int) ≠ 45 := by rw [hbt]; exact h45
              have e1' : (((s[i]'hlt).toNat : Int) == 63) = false := by simpa using e1
              have e2' : (((s[i]'hlt).toNat : Int) == 45) = false := by simpa using e2
              clear hbt e1 e2
              go_wp2_with fail
              go_roundw
              case rel => exact ⟨i + 1, by go_num, by omega, HJ, (by first | trivial | rfl)⟩
              case measure => simp [intOf]; omega
        · obtain rfl : i = s.size := by omega
          have hle' : (u.size : Int) ≤ s.size := by have := HL.out HI.out; omega
          have hle : decide ((u.size : Int) ≤ s.size) = true := decide_eq_true hle'
          go_wp2_with ((go_at_call 14; (with_reducible refine (live_calls _).mono ?_); rintro e w5 ⟨rfl, h5⟩))
          go_ret
          exact ⟨rfl, by (repeat (first | assumption | exact Ext.refl _ | apply Ext.alloc | apply Ext.drew | apply Ext.drewN | refine Ext.trans ?_ (by assumption)))⟩
  · have hn := parse_err (k := k) (c := bt s) (n := s.size) (by rw [← hP]; exact h0)
    rw [← hP] at hn
    clear hP
    obtain ⟨e, p, t⟩ := P
    dsimp only at *
    subst hn
    have h0' : (e != 0) = true := by simp [h0]
    go_enter Try.func6, Try.ntmps6
    go_wp2_with (first
      | ((go_at_call 9; (with_reducible refine (HP.out _).mono ?_); rintro e w1 ⟨v1, rfl, ho1, h1⟩); (obtain ⟨A1, c1, rfl, h11, h12⟩ := ho1.shape))
      | ((go_at_call 12; (with_reducible refine (num_calls _ _).mono ?_); rintro e w' ⟨rfl, hw⟩; obtain rfl := hw.symm))
      | ((go_at_call 14; (with_reducible refine (live_calls _).mono ?_); rintro e w5 ⟨rfl, h5⟩)))
    go_ret
    exact ⟨rfl, by (repeat (first | assumption | exact Ext.refl _ | apply Ext.alloc | apply Ext.drew | apply Ext.drewN | refine Ext.trans ?_ (by assumption)))⟩
end Go.Proofs.Ytaijjnndnoicpaa
