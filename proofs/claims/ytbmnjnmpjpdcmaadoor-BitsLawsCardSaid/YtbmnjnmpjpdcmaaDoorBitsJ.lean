/- Walks: num and live, which stand at each statement's end. Conditions: none. -/
import Derived.Test.YtbmnjnmpjpdcmaaDoorBitsD
import Derived.Test.YtbmnjnmpjpdcmaaDoorBitsI
namespace Go.Proofs.YtbmnjnmpjpdcmaaDoor
open Go.RowKit Go.Eg

theorem num_calls (x : Int) (w : World) : Calls Tryd.prog 21 #[.int .i64 x] w fun e w' => e = .returned (.int .i64 x) ∧ w' = w := by
  go_enter Tryd.func21, Tryd.ntmps21
  go_wp2_with fail

  go_ret
  exact ⟨rfl, rfl⟩
set_option maxHeartbeats 1000000 in
set_option maxRecDepth 100000 in
theorem live_calls (w : World) : Calls Tryd.prog 11 #[] w fun e w' => e = .returned (.bool true) ∧ Ext w w' := by
  obtain ⟨p, hp⟩ : ∃ p, p = ofS [3, 64, 3] := ⟨_, rfl⟩
  have c0 : (((wd p 0 : Nat) : Int) == 8) = true := by rw [hp]; decide +kernel
  have c1 : (((wd p 1 : Nat) : Int) == 1) = true := by rw [hp]; decide +kernel
  have c2 : (((fieldF p 62 6 : Nat) : Int) == 4) = true := by rw [hp]; decide +kernel
  have c3 : (((cnt p 512 : Nat) : Int) == 2) = true := by rw [hp]; decide +kernel
  have HE : Hid (ofE [3, 64, 3] = 0) := by show _ = _; decide
  have HF : Hid (fieldE 62 6 = 0) := by show _ = _; decide
  have HP := Lib.hid hp
  have HR : Hid (Rd (Ty.int .i64) (w.alloc (.cells #[.int .i64 3, .int .i64 64, .int .i64 3] 3)) [3, 64, 3] (.slice (some ⟨w.heap.size, 0, none⟩) 3 3)) := by
    show Rd _ _ _ _
    exact (SlP.lit (t := Ty.int .i64) (B := Any) [3, 64, 3] _ rfl (by decide) trivial (fun i x hx => by
      match i, hx with | 0, rfl => exact ⟨_, rfl, by intro j u hu; match j, hu with | 0, rfl => rfl⟩ | 1, rfl => exact ⟨_, rfl, by intro j u hu; match j, hu with | 0, rfl => rfl⟩ | 2, rfl => exact ⟨_, rfl, by intro j u hu; match j, hu with | 0, rfl => rfl⟩))
  clear hp
  go_enter Tryd.func11, Tryd.ntmps11
  go_wp2_with (first
    | ((go_at_call 15; (with_reducible refine (Of_calls [3, 64, 3] _ _ HR.out).mono ?_); rintro e w1 ⟨rfl, h1⟩); rw [HE.out, ← HP.out])
    | ((go_at_call 41; (with_reducible refine (Field_calls p _ _ _).mono ?_); rintro e w2 ⟨rfl, h2⟩); rw [HF.out]; have := (h2).cells; have := (h2).frozens; have : w1.heap.size < w2.heap.size := Nat.lt_of_lt_of_le (by first | assumption | (simp; done) | (simp; omega)) (h2).le)
    | ((go_at_call 12; (with_reducible refine (Size_calls p _).mono ?_); rintro e w3 ⟨rfl, h3⟩))
    | (go_at_call 21; (with_reducible refine (num_calls _ _).mono ?_); rintro e w' ⟨rfl, hw⟩; obtain rfl := hw.symm))

  go_ret
  exact ⟨rfl, by (repeat (first | assumption | exact Ext.refl _ | apply Ext.alloc | apply Ext.drew | apply Ext.drewN | refine Ext.trans ?_ (by assumption)))⟩
end Go.Proofs.YtbmnjnmpjpdcmaaDoor
