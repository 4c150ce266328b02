/- Walks of chapter 4's laws SyntaxMore, SyntaxBlanks. Conditions: none beyond what the arguments are. -/
import Derived.Test.YtaijjnndnoicpaaLawSynA
import Derived.Deep.QuietTactic
import Derived.BigQuiet
import Derived.StillTailTactics
import Derived.IntWalk
import Derived.Test.YtaijjnndnoicpaaRowLib
namespace Go.Eg
theorem parse_20 (k : Int) (c : Nat → Int) (n : Nat) : (parseP k c n).1 = 20 ↔ (k < 1 ∨ 8 < k) := by
  unfold parseP
  by_cases h : k < 1 ∨ 8 < k
  · simp [if_pos h, h]
  · rw [if_neg h]
    simp only [h, iff_false]
    split
    · decide
    · split
      · simp
      · split
        · simp
        · split <;> simp
theorem parse_small (k : Int) (c : Nat → Int) (n : Nat) : (parseP k c n).2.1 ≤ 1000 := by
  unfold parseP
  by_cases h : k < 1 ∨ 8 < k
  · rw [if_pos h]; decide
  · rw [if_neg h]
    by_cases hn : 1000 < n
    · rw [if_pos hn]; decide
    · rw [if_neg hn]
      have hg := unionP_gd (k := k) (c := c) (n := n) (by omega) (n + 1) 0 (by omega)
      generalize unionP k c n (n + 1) 0 = r at *
      match r, hg with
      | .error p, hg => have := hg.2; show p ≤ 1000; omega
      | .ok (m, t), hg =>
        have := hg.2.1
        dsimp only
        split
        · show skipB c n m ≤ 1000; omega
        · split <;> simp
end Go.Eg
namespace Go.Proofs.Ytaijjnndnoicpaa
open Go.RowKit Go.Eg

/-- What Parse answers, the answer under a name. -/
theorem parse_at (k : Int) (s : ByteArray) (P : Int × Nat × List Nd) (hP : P = parseP k (bt s) s.size) (W : World) :
    Calls Try.prog 9 #[.int .i64 k, .string s] W fun e w' => ∃ v, e = .returned (.tuple #[v, .int .i64 (P.2.1 : Nat), .int .i64 P.1]) ∧ Own tyNd 54 W.heap.size No w' P.2.2 v ∧ Ext W w' := by
  subst hP; exact Parse_calls k s W

set_option maxHeartbeats 4000000 in
theorem SyntaxMore_calls (k : Int) (s : ByteArray) (w : World) (hk : IntIn .i64 k) (hs : s.size ≤ 140737488351232) :
    Calls Try.prog 8 #[.int .i64 k, .string s] w fun e w' => e = .returned (.bool true) ∧ Ext w w' := by
  have h20 := parse_20 k (bt s) s.size
  have hmore := fun h1 h8 => parse_more (k := k) (c := bt s) (n := s.size) h1 h8 (t := [])
  obtain ⟨P, hP⟩ : ∃ P, P = parseP k (bt s) s.size := ⟨_, rfl⟩
  obtain ⟨Q, hQ⟩ : ∃ Q, Q = parseP (k + 1) (bt s) s.size := ⟨_, rfl⟩
  have HP := Lib.hid (parse_at k s P hP)
  have HQ := Lib.hid (parse_at (k + 1) s Q hQ)
  rw [← hP] at h20 hmore
  rw [← hQ] at hmore
  clear hP hQ
  obtain ⟨e1, p1, t1⟩ := P
  obtain ⟨e2, p2, t2⟩ := Q
  dsimp only at *
  by_cases hb : k < 1 ∨ 8 ≤ k
  · clear HQ hmore
    have hd : ((e1 == 20) == (k != 8)) = true := by
      by_cases h8 : k = 8
      · have : ¬ e1 = 20 := fun h => by have := h20.1 h; omega
        simp [h8, this]
      · have : e1 = 20 := h20.2 (by omega)
        simp [h8, this]
    clear h20
    by_cases h1 : k < 1
    · go_enter Try.func8, Try.ntmps8
      go_wp2_with (first
        | ((go_at_call 9; (with_reducible refine (HP.out _).mono ?_); rintro e w1 ⟨v1, rfl, ho1, h1⟩))
        | ((go_at_call 12; (with_reducible refine (num_calls _ _).mono ?_); rintro e w' ⟨rfl, hw⟩; obtain rfl := hw.symm))
        | ((go_at_call 14; (with_reducible refine (live_calls _).mono ?_); rintro e w2 ⟨rfl, h2⟩)))
      go_ret
      exact ⟨rfl, by (repeat (first | assumption | exact Ext.refl _ | apply Ext.alloc | apply Ext.drew | apply Ext.drewN | refine Ext.trans ?_ (by assumption)))⟩
    · have h8 : 8 ≤ k := by omega
      go_enter Try.func8, Try.ntmps8
      go_wp2_with (first
        | ((go_at_call 9; (with_reducible refine (HP.out _).mono ?_); rintro e w1 ⟨v1, rfl, ho1, h1⟩))
        | ((go_at_call 12; (with_reducible refine (num_calls _ _).mono ?_); rintro e w' ⟨rfl, hw⟩; obtain rfl := hw.symm))
        | ((go_at_call 14; (with_reducible refine (live_calls _).mono ?_); rintro e w2 ⟨rfl, h2⟩)))
      go_ret
      exact ⟨rfl, by (repeat (first | assumption | exact Ext.refl _ | apply Ext.alloc | apply Ext.drew | apply Ext.drewN | refine Ext.trans ?_ (by assumption)))⟩
  · have h1 : ¬ k < 1 := by omega
    have h8 : ¬ 8 ≤ k := by omega
    clear h20
    by_cases he : e1 = 0
    · have hq := hmore (by omega) (by omega) he
      simp only [Prod.mk.injEq] at hq
      obtain ⟨rfl, rfl, rfl⟩ := hq
      subst he
      clear hmore hb
      go_enter Try.func8, Try.ntmps8
      go_wp2_with (first
        | ((go_at_call 9; (with_reducible refine (HP.out _).mono ?_); rintro e w1 ⟨v1, rfl, ho1, h1⟩))
        | ((go_at_call 9; (with_reducible refine (HQ.out _).mono ?_); rintro e w3 ⟨v3, rfl, ho3, h3⟩))
        | ((go_at_call 12; (with_reducible refine (num_calls _ _).mono ?_); rintro e w' ⟨rfl, hw⟩; obtain rfl := hw.symm))
        | ((go_at_call 11; (with_reducible refine (sameNodes_calls t2 t2 _ _ _ (ho1.rd.ext h3) ho3.rd).mono ?_); rintro e w4 ⟨rfl, h4⟩); rw [decide_eq_true rfl])
        | ((go_at_call 14; (with_reducible refine (live_calls _).mono ?_); rintro e w2 ⟨rfl, h2⟩)))
      go_ret
      exact ⟨rfl, by (repeat (first | assumption | exact Ext.refl _ | apply Ext.alloc | apply Ext.drew | apply Ext.drewN | refine Ext.trans ?_ (by assumption)))⟩
    · have he' : (e1 != 0) = true := by simp [he]
      clear hmore hb he
      go_enter Try.func8, Try.ntmps8
      go_wp2_with (first
        | ((go_at_call 9; (with_reducible refine (HP.out _).mono ?_); rintro e w1 ⟨v1, rfl, ho1, h1⟩))
        | ((go_at_call 9; (with_reducible refine (HQ.out _).mono ?_); rintro e w3 ⟨v3, rfl, ho3, h3⟩))
        | ((go_at_call 12; (with_reducible refine (num_calls _ _).mono ?_); rintro e w' ⟨rfl, hw⟩; obtain rfl := hw.symm))
        | ((go_at_call 14; (with_reducible refine (live_calls _).mono ?_); rintro e w2 ⟨rfl, h2⟩)))
      go_ret
      exact ⟨rfl, by (repeat (first | assumption | exact Ext.refl _ | apply Ext.alloc | apply Ext.drew | apply Ext.drewN | refine Ext.trans ?_ (by assumption)))⟩
end Go.Proofs.Ytaijjnndnoicpaa
