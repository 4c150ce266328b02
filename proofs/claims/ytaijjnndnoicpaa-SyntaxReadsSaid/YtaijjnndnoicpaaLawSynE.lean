/- Walk of chapter 4's law SyntaxReads. Conditions: none beyond what the arguments are. -/
import Derived.Test.YtaijjnndnoicpaaRefSynE
import Derived.Test.YtaijjnndnoicpaaSynW
import Derived.Test.YtaijjnndnoicpaaKeepC
namespace Go.Eg
theorem parse_len (k : Int) (c : Nat → Int) (n : Nat) : (parseP k c n).2.2.length ≤ 4000 := by
  by_cases h : (parseP k c n).1 = 0
  · obtain ⟨_, _, _, _, x, _, hf, _, _, hl, _⟩ := parse_tree h
    rw [← hf]; exact hl
  · rw [parse_err h]; exact Nat.zero_le _
end Go.Eg
namespace Go.Proofs.Ytaijjnndnoicpaa
open Go.RowKit Go.Eg

theorem rparse_at (k : Int) (s : ByteArray) (P : Int × Nat × List Nd) (hP : P = parseP k (bt s) s.size) (W : World) :
    Calls Try.prog 10 #[.int .i64 k, .string s] W fun e w' => ∃ v, e = .returned (.tuple #[v, .int .i64 (P.2.1 : Nat), .int .i64 P.1]) ∧ Own tyNd 54 W.heap.size No w' P.2.2 v ∧ Ext W w' := by
  subst hP; exact rParse_calls k s W

set_option maxHeartbeats 4000000 in
set_option maxRecDepth 100000 in
theorem SyntaxReads_calls (k : Int) (s : ByteArray) (w : World) (_ : IntIn .i64 k) (_ : s.size ≤ 140737488351232) :
    Calls Try.prog 3 #[.int .i64 k, .string s] w fun e w' => e = .returned (.bool true) ∧ Ext w w' := by
  obtain ⟨P, hP⟩ : ∃ P, P = parseP k (bt s) s.size := ⟨_, rfl⟩
  have hl := parse_len k (bt s) s.size
  rw [← hP] at hl
  have HP := Lib.hid (parse_at k s P hP)
  have HR := Lib.hid (rparse_at k s P hP)
  clear hP
  obtain ⟨e, p, t⟩ := P
  dsimp only at *
  go_enter Try.func3, Try.ntmps3
  go_wp2_with (first
    | ((go_at_call 9; (with_reducible refine (HP.out w).mono ?_); rintro e w1 ⟨v1, rfl, ho1, h1⟩); (obtain ⟨A1, c1, rfl, h11, h12⟩ := ho1.shape))
    | ((go_at_call 9; (with_reducible refine (HP.out _).mono ?_); rintro e w2 ⟨v2, rfl, ho2, h2⟩); (obtain ⟨A2, c2, rfl, h21, h22⟩ := ho2.shape))
    | ((go_at_call 10; (with_reducible refine (HR.out _).mono ?_); rintro e w3 ⟨v3, rfl, ho3, h3⟩); have r1 := (ho1.ext h2).ext h3; have r2 := ho2.ext h3; have hd : ∀ j, (Value.slice A1 t.length c1).ownBlock = some j → (Value.slice A2 t.length c2).ownBlock ≠ some j := fun j hj hk => (by have := (ho1.block j hj).2; have := ho2.lo j hk; omega); have q3 : Ext w w3 := (h1.trans h2).trans h3; have q3l := q3.le; have r2' := r2.rebase (base' := w.heap.size) (fun j hj => Nat.le_trans h1.le (ho2.lo j hj)))
    | ((go_at_call 11; (with_reducible refine (sameNodes_calls t t _ _ w3 r1.rd ho3.rd).mono ?_); rintro e w4 ⟨rfl, h4⟩); rw [decide_eq_true (rfl : t = t)])
    | ((go_at_call 11; (with_reducible refine (sameNodes_calls t t _ _ _ (r2.rd.ext h4) (ho3.rd.ext h4)).mono ?_); rintro e w5 ⟨rfl, h5⟩); rw [decide_eq_true (rfl : t = t)]; have q5 := h4.trans h5; have q5l := q5.le)
    | ((go_at_call 12; (with_reducible refine (num_calls _ _).mono ?_); rintro e w' ⟨rfl, hw⟩; obtain rfl := hw.symm))
    | ((go_at_call 13; (with_reducible refine (apartNodes_calls [t, t] _ w.heap.size _ (Own2.two (r1.ext q5) (r2'.ext q5) hd (by omega)) (by simp; omega) (by simp) (by simp; omega)).mono ?_); rintro e w6 ⟨rfl, h6⟩); have q6 : Ext w w6 := Below.trans ((q3.trans q5).alloc _) h6)
    | ((go_at_call 14; (with_reducible refine (live_calls _).mono ?_); rintro e w7 ⟨rfl, h7⟩)))
  go_ret
  exact ⟨rfl, q6.trans h7⟩
end Go.Proofs.Ytaijjnndnoicpaa
