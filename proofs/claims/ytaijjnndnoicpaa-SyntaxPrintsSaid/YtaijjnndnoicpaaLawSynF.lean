/- Walk of chapter 4's law SyntaxPrints. Conditions: none beyond what the arguments are. -/
import Derived.Test.YtaijjnndnoicpaaLawSynD
import Derived.Test.YtaijjnndnoicpaaRefSynG
namespace Go.Proofs.Ytaijjnndnoicpaa
open Go.RowKit Go.Eg

theorem rprint_at (k : Int) (t : List Nd) (R : Int × List Int) (hR : R = printF k t) (v : Value) (W : World) (hr : Rd tyNd W t v) :
    Calls Try.prog 17 #[.int .i64 k, v] W fun e w' => e = .returned (.tuple #[.string (txt R.2), .int .i64 R.1]) ∧ Ext W w' := by
  subst hR; exact rPrint_calls k t v W hr

set_option maxHeartbeats 4000000 in
set_option maxRecDepth 100000 in
theorem SyntaxPrints_calls (k : Int) (t : List Nd) (w : World) (_ : IntIn .i64 k) (v : Value) (ht : Rd tyNd w t v) (lt : t.length * 16 ≤ 140737488351232) :
    Calls Try.prog 4 #[.int .i64 k, v] w fun e w' => e = .returned (.bool true) ∧ Ext w w' := by
  obtain ⟨R, hR⟩ : ∃ R, R = printF k t := ⟨_, rfl⟩
  have HL := Lib.hid (lentNodes_calls t v w ht lt)
  have HP := Lib.hid (print_at k t R hR)
  have HR := Lib.hid (rprint_at k t R hR)
  clear hR
  obtain ⟨e, l⟩ := R
  dsimp only at *
  generalize txt l = u at *
  go_enter Try.func4, Try.ntmps4
  go_wp2_with (first
    | ((go_at_call 15; (with_reducible refine (HL.out).mono ?_); rintro e w1 ⟨g1, c1, rfl, hs1, h1⟩))
    | ((go_at_call 16; (with_reducible refine (HP.out _ _ hs1.rd).mono ?_); rintro e w2 ⟨rfl, h2⟩); have hx2 : Ext w w2 := h1.trans h2)
    | ((go_at_call 17; (with_reducible refine (HR.out _ _ (ht.ext hx2)).mono ?_); rintro e w3 ⟨rfl, h3⟩); have hx3 : Ext w w3 := hx2.trans h3)
    | ((go_at_call 12; (with_reducible refine (num_calls _ _).mono ?_); rintro e w' ⟨rfl, hw⟩; obtain rfl := hw.symm))
    | ((go_at_call 18; (with_reducible refine (stayNodes_calls t g1 c1 _ _ _ ((hs1.ext h2).ext h3) (ht.ext hx3) lt).mono ?_); rintro e w4 ⟨rfl, h4⟩))
    | ((go_at_call 14; (with_reducible refine (live_calls _).mono ?_); rintro e w5 ⟨rfl, h5⟩)))
  go_ret
  exact ⟨rfl, by (repeat (first | assumption | exact Ext.refl _ | apply Ext.alloc | apply Ext.drew | apply Ext.drewN | refine Ext.trans ?_ (by assumption)))⟩
end Go.Proofs.Ytaijjnndnoicpaa
