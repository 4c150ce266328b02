/- Walks of package syntax: letter, begins, bar, and; put. Conditions: the reader's cells are as RdS says. -/
import Derived.Test.YtaijjnndnoicpaaReadA
import Derived.Test.YtaijjnndnoicpaaTreeB
namespace Go.Proofs.Ytaijjnndnoicpaa
open Go.RowKit Go.Eg

/-- The reader, and what was read so far. -/
def St (w : World) (b : Nat) (k : Int) (s : ByteArray) (i : Nat) (bad : Bool) (out : List Nd) : Prop := ∃ v, RdS w b k s i bad v ∧ Own tyNd 54 (b + 1) No w out v

set_option maxHeartbeats 400000 in
theorem letter_calls (k : Int) (c : Int) (hc : 0 ≤ c ∧ c ≤ 255) (b : Nat) (W : World) (hR : W.cell? ⟨b, 0, none⟩ = some (.int .i64 k)) :
    Calls Try.prog 58 #[.pointer (some ⟨b, 0, none⟩), .int .u8 c] W fun e w' => e = .returned (.bool (isLet k c)) ∧ w' = W := by
  go_enter Try.func58, Try.ntmps58
  go_wp2_with fail
  all_goals
    go_ret
    refine ⟨ret_bool ?_, rfl⟩
    simp [isLet] <;> omega
theorem isLet_k (k c : Int) (h : 97 ≤ c) : isLet k c = decide (c - 97 < k) := by simp [isLet, h]

set_option maxHeartbeats 400000 in
theorem bar_calls (c : Int) (p : Value) (W : World) :
    Calls Try.prog 36 #[p, .int .u8 c] W fun e w' => e = .returned (.bool (decide (c = 124))) ∧ w' = W := by
  go_enter Try.func36, Try.ntmps36
  go_wp2_with fail
  go_ret
  exact ⟨ret_bool (by simp [Bool.beq_eq_decide_eq]), rfl⟩
set_option maxHeartbeats 400000 in
theorem and_calls (c : Int) (p : Value) (W : World) :
    Calls Try.prog 47 #[p, .int .u8 c] W fun e w' => e = .returned (.bool (decide (c = 38 ∨ c = 45))) ∧ w' = W := by
  go_enter Try.func47, Try.ntmps47
  go_wp2_with fail
  all_goals
    go_ret
    exact ⟨ret_bool (by by_cases h38 : c = 38 <;> by_cases h45 : c = 45 <;> simp [h38, h45] at * ), rfl⟩

set_option maxHeartbeats 400000 in
theorem begins_calls (k : Int) (c : Int) (hc : 0 ≤ c ∧ c ≤ 255) (b : Nat) (W : World) (hR : W.cell? ⟨b, 0, none⟩ = some (.int .i64 k)) :
    Calls Try.prog 54 #[.pointer (some ⟨b, 0, none⟩), .int .u8 c] W fun e w' => e = .returned (.bool (begs k c)) ∧ w' = W := by
  have HL := Lib.hid (letter_calls k c hc b W hR)
  clear hR
  go_enter Try.func54, Try.ntmps54
  go_wp2_with ((go_at_call 58; (with_reducible refine (HL.out).mono ?_); rintro e w' ⟨rfl, hw⟩; obtain rfl := hw.symm))
  all_goals
    go_ret
    exact ⟨ret_bool (by cases hL : isLet k c <;> simp_all [begs]), rfl⟩

set_option maxHeartbeats 1000000 in
theorem put_calls (n : Nd) (hn : 0 ≤ n.s ∧ n.s ≤ 255) (k : Int) (s : ByteArray) (i : Nat) (bad : Bool) (out : List Nd) (b : Nat) (W : World) (hS : St W b k s i bad out) (hl : out.length ≤ 100000) :
    Calls Try.prog 45 #[.pointer (some ⟨b, 0, none⟩), .int .i64 n.k, .int .u8 n.s] W fun e w' => e = .returned (.tuple #[]) ∧ St w' b k s i bad (out ++ [n]) ∧ Below b W w' := by
  obtain ⟨v, hR, ho⟩ := hS
  have h4 := hR.c4; have hf := hR.f4; have hlt := hR.lt
  obtain ⟨A, c, rfl, hlc, hcm⟩ := ho.shape
  go_enter Try.func45, Try.ntmps45
  go_wp2_with (first | ((with_reducible refine gate_bi .append #[.tmp 10, .tmp 14] ?_); refine wp_append (t := tyNd) 54 (b + 1) 16 elNd No _ out rfl (ho.ext (by (repeat (first | assumption | exact Ext.refl _ | apply Ext.alloc | apply Ext.drew | apply Ext.drewN | refine Ext.trans ?_ (by assumption))))) _ [n] rfl Any (SlP.one _ _ (fun _ _ => ⟨rfl, hn⟩)) (fun _ _ h => h) (by simp; omega) (by decide) (by simp; omega) ?_; intro v6 w6 ho6 hg6 _; (obtain ⟨A6, c6, rfl, h61, h62⟩ := ho6.shape); (rw [show (out ++ [n]).length = out.length + 1 by simp] at ho6 h61); (have hR6 := (hR.ext ((Ext.refl W).alloc _)).keep (hg6.block b (by simp; omega) (fun e => by have := ho.lo b e.symm; omega))); have h46 := hR6.c4; have hf6 := hR6.f4))
  refine bodyPost_end (v := .tuple #[]) (by simp [results, Try.results45]) rfl ⟨rfl, ⟨_, hR6.lay _, ho6.set _ _ (Nat.lt_succ_self _) (fun _ h => h.elim)⟩, ?_⟩
  exact (((Below.refl b W).alloc (by omega) _).grown hg6 (by simp; omega) (fun k hk => by have := ho.lo k hk; omega)).setCell (Nat.le_refl _) _
end Go.Proofs.Ytaijjnndnoicpaa
