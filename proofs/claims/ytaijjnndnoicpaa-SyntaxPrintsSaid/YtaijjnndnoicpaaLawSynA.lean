/- Walks of chapter 4's laws: num, live. Conditions: none. -/
import Derived.Test.YtaijjnndnoicpaaReadF
import Derived.Test.YtaijjnndnoicpaaPrintC
import Derived.Test.YtaijjnndnoicpaaKeepA
import Derived.Test.YtaijjnndnoicpaaEgMore
import Derived.Test.YtaijjnndnoicpaaSynV
namespace Go.Proofs.Ytaijjnndnoicpaa
open Go.RowKit Go.Eg

set_option maxHeartbeats 400000 in
theorem num_calls (e : Int) (w : World) : Calls Try.prog 12 #[.int .i64 e] w fun r w' => r = .returned (.int .i64 e) ∧ w' = w := by
  go_enter Try.func12, Try.ntmps12
  go_wp2_with fail
  go_ret
  exact ⟨rfl, rfl⟩

theorem lit_nodes (w : World) (e : TypeId) : Rd tyNd (w.alloc (.cells #[.int .i64 3, .int .u8 97, .int .i64 3, .int .u8 98, .int .i64 7, .int .u8 0, .int .i64 8, .int .u8 0] e)) [⟨3, 97⟩, ⟨3, 98⟩, ⟨7, 0⟩, ⟨8, 0⟩] (.slice (some ⟨w.heap.size, 0, none⟩) 4 4) :=
  SlP.lit (t := tyNd) [⟨3, 97⟩, ⟨3, 98⟩, ⟨7, 0⟩, ⟨8, 0⟩] _ (n := 4) rfl (by decide) trivial (fun i x hx => by
    match i, hx with
    | 0, hx => cases hx; exact ⟨_, ⟨rfl, by decide⟩, fun j u hu => by match j, hu with | 0, hu => exact hu | 1, hu => exact hu | j + 2, hu => simp at hu⟩
    | 1, hx => cases hx; exact ⟨_, ⟨rfl, by decide⟩, fun j u hu => by match j, hu with | 0, hu => exact hu | 1, hu => exact hu | j + 2, hu => simp at hu⟩
    | 2, hx => cases hx; exact ⟨_, ⟨rfl, by decide⟩, fun j u hu => by match j, hu with | 0, hu => exact hu | 1, hu => exact hu | j + 2, hu => simp at hu⟩
    | 3, hx => cases hx; exact ⟨_, ⟨rfl, by decide⟩, fun j u hu => by match j, hu with | 0, hu => exact hu | 1, hu => exact hu | j + 2, hu => simp at hu⟩
    | i + 4, hx => simp at hx)

set_option maxHeartbeats 4000000 in
theorem live_calls (w : World) : Calls Try.prog 14 #[] w fun e w' => e = .returned (.bool true) ∧ Ext w w' := by
  have HP : Hid (∀ W, Calls Try.prog 9 #[.int .i64 2, .string ⟨#[40, 32, 97, 98, 41, 42]⟩] W fun e w' => ∃ v, e = .returned (.tuple #[v, .int .i64 0, .int .i64 0]) ∧ Own tyNd 54 W.heap.size No w' [⟨3, 97⟩, ⟨3, 98⟩, ⟨7, 0⟩, ⟨8, 0⟩] v ∧ Ext W w') := Lib.hid (fun W => by
    have := Parse_calls 2 ⟨#[40, 32, 97, 98, 41, 42]⟩ W
    unfold ParseAns at this
    rw [show (⟨#[40, 32, 97, 98, 41, 42]⟩ : ByteArray).size = 6 from rfl, live_parse] at this
    exact this)
  have HQ : Hid (∀ W v, Rd tyNd W [⟨3, 97⟩, ⟨3, 98⟩, ⟨7, 0⟩, ⟨8, 0⟩] v → Calls Try.prog 16 #[.int .i64 2, v] W fun e w' => e = .returned (.tuple #[.string ⟨#[40, 97, 98, 41, 42]⟩, .int .i64 0]) ∧ Ext W w') := Lib.hid (fun W v h => by
    have := Print_calls 2 _ v W h
    rw [live_print] at this
    exact this)
  go_enter Try.func14, Try.ntmps14
  go_wp2_with (first
    | ((go_at_call 9; (with_reducible refine (HP.out _).mono ?_); rintro e w1 ⟨v1, rfl, ho1, h1⟩); (obtain ⟨A1, c1, rfl, h11, h12⟩ := ho1.shape))
    | (go_at_call 16; go_must ((with_reducible refine (HQ.out _ _ (lit_nodes _ _)).mono ?_); rintro e w2 ⟨rfl, h2⟩; (obtain ⟨b, off, rfl, hb, hc0, hc1⟩ := rd_node ((ho1.rd.ext ((Ext.refl _).alloc _)).ext h2) (i := 3) (by decide))))
    | ((go_at_call 12; (with_reducible refine (num_calls _ _).mono ?_); rintro e w' ⟨rfl, hw⟩; obtain rfl := hw.symm)))
  go_ret
  exact ⟨rfl, by (repeat (first | assumption | exact Ext.refl _ | apply Ext.alloc | apply Ext.drew | apply Ext.drewN | refine Ext.trans ?_ (by assumption)))⟩
end Go.Proofs.Ytaijjnndnoicpaa
