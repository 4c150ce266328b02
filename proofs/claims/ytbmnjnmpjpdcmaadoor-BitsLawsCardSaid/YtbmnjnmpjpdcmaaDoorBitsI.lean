/- Walks: OnesCount64 and Size. Conditions: none. -/
import Derived.Test.YtbmnjnmpjpdcmaaDoorBitsE
import Derived.Test.YtbmnjnmpjpdcmaaDoorListB
import Derived.Test.YtbmnjnmpjpdcmaaDoorOnesM
import Derived.Laws.Bits128
namespace Go.Proofs.YtbmnjnmpjpdcmaaDoor
open Go.RowKit Go.Eg

theorem wrap_nat {n : Nat} (h : n < 2 ^ 64) : IntKind.u64.wrap (n : Int) = n := by rw [IntKind.wrap_u64]; omega
theorem oA {u : Nat} (hu : u < 2 ^ 64) : IntKind.u64.wrap (bits .and .u64 ((u : Int) / 2) 6148914691236517205 + bits .and .u64 (u : Int) 6148914691236517205) = ((onesA u : Nat) : Int) := by
  have e : ((u : Nat) : Int) / 2 = ((u / 2 : Nat) : Int) := by omega
  rw [e, show (6148914691236517205 : Int) = ((6148914691236517205 : Nat) : Int) from rfl, u64_and_nat _ _ (by omega) (by decide), u64_and_nat _ _ hu (by decide)]
  have := wrap_nat (onesA_lt hu)
  unfold onesA at *
  rwa [Int.natCast_add] at this
theorem oB {u : Nat} (hu : u < 2 ^ 64) : IntKind.u64.wrap (bits .and .u64 (((onesA u : Nat) : Int) / 4) 3689348814741910323 + bits .and .u64 ((onesA u : Nat) : Int) 3689348814741910323) = ((onesB (onesA u) : Nat) : Int) := by
  have h1 := onesA_lt hu
  have e : ((onesA u : Nat) : Int) / 4 = ((onesA u / 4 : Nat) : Int) := by omega
  rw [e, show (3689348814741910323 : Int) = ((3689348814741910323 : Nat) : Int) from rfl, u64_and_nat _ _ (by omega) (by decide), u64_and_nat _ _ h1 (by decide)]
  have := wrap_nat (onesB_lt hu)
  unfold onesB at *
  rwa [Int.natCast_add] at this
theorem onesB_lt' {u : Nat} (hu : u < 2 ^ 64) : onesB (onesA u) < 2 ^ 63 := by
  rw [onesB_is hu]
  have h := s2_all u
  have h2 := fun a ha => (show a < 256 ∧ a < 80 by have := h a ha; omega)
  simp only [bys, List.map_cons, List.map_nil] at h2 ⊢
  generalize s2 (s1 (u % 256)) = a0, s2 (s1 (u / 256 % 256)) = a1, s2 (s1 (u / 65536 % 256)) = a2, s2 (s1 (u / 16777216 % 256)) = a3, s2 (s1 (u / 4294967296 % 256)) = a4, s2 (s1 (u / 1099511627776 % 256)) = a5, s2 (s1 (u / 281474976710656 % 256)) = a6, s2 (s1 (u / 72057594037927936 % 256)) = a7 at h2 ⊢
  have g0 := h2 a0 (by simp); have g1 := h2 a1 (by simp); have g2 := h2 a2 (by simp); have g3 := h2 a3 (by simp); have g4 := h2 a4 (by simp); have g5 := h2 a5 (by simp); have g6 := h2 a6 (by simp); have g7 := h2 a7 (by simp)
  simp only [byv]
  clear h h2
  omega
theorem oC {u : Nat} (hu : u < 2 ^ 64) : bits .and .u64 (IntKind.u64.wrap (((onesB (onesA u) : Nat) : Int) / 16 + ((onesB (onesA u) : Nat) : Int))) 1085102592571150095 = ((onesC (onesB (onesA u)) : Nat) : Int) := by
  have h1 := onesB_lt' hu
  generalize onesB (onesA u) = q at *
  have e : ((q : Nat) : Int) / 16 + (q : Int) = ((q / 16 + q : Nat) : Int) := by omega
  rw [e, wrap_nat (by omega), show (1085102592571150095 : Int) = ((1085102592571150095 : Nat) : Int) from rfl, u64_and_nat _ _ (by omega) (by decide)]
  rfl
theorem oD {u : Nat} (hu : u < 2 ^ 64) : ∃ y4 y5 y6 : Nat, IntKind.u64.wrap (((onesC (onesB (onesA u)) : Nat) : Int) + ((onesC (onesB (onesA u)) : Nat) : Int) / 256) = (y4 : Int) ∧ IntKind.u64.wrap ((y4 : Int) + (y4 : Int) / 65536) = (y5 : Int) ∧ IntKind.u64.wrap ((y5 : Int) + (y5 : Int) / 4294967296) = (y6 : Int) ∧ wrap64 (y6 : Int) = y6 ∧ y6 % 128 = cnt u.testBit 64 := by
  obtain ⟨y, hy⟩ : ∃ y, y = onesC (onesB (onesA u)) := ⟨_, rfl⟩
  have hl := onesC_is hu
  rw [← hy] at hl ⊢
  rw [cnt_bytes]
  have hb : ∀ q : Nat → Bool, cnt q 8 ≤ 8 := fun q => cnt_le q 8
  simp only [bys, List.map_cons, List.map_nil] at hl ⊢
  obtain ⟨y4, e4⟩ : ∃ y4, y4 = y + y / 256 := ⟨_, rfl⟩
  obtain ⟨y5, e5⟩ : ∃ y5, y5 = y4 + y4 / 65536 := ⟨_, rfl⟩
  obtain ⟨y6, e6⟩ : ∃ y6, y6 = y5 + y5 / 4294967296 := ⟨_, rfl⟩
  obtain ⟨h1, h2, h3, h4, h5⟩ := onesD (hb _) (hb _) (hb _) (hb _) (hb _) (hb _) (hb _) (hb _) hl e4 e5 e6
  clear hl hb
  have l4 : y4 < 2 ^ 64 := by omega
  have l5 : y5 < 2 ^ 64 := by omega
  have l6 : y6 < 2 ^ 64 := by omega
  have w4 := wrap_nat l4
  have w5 := wrap_nat l5
  have w6 := wrap_nat l6
  refine ⟨y4, y5, y6, ?_, ?_, ?_, ?_, ?_⟩
  · rw [← w4]; congr 1; clear w4 w5 w6 h1; omega
  · rw [← w5]; congr 1; clear w4 w5 w6 h1; omega
  · rw [← w6]; congr 1; clear w4 w5 w6 h1; omega
  · exact IntWalk.wrap64_in _ (by omega)
  · rw [h1]
    simp only [List.sum_cons, List.sum_nil]
    omega
set_option maxHeartbeats 1000000 in
theorem ones_calls (u : Nat) (hu : u < 2 ^ 64) (w : World) : Calls Tryd.prog 42 #[.int .u64 u] w fun e w' => e = .returned (.int .i64 (cnt u.testBit 64)) ∧ w' = w := by
  have HU := Lib.hid hu
  go_enter Tryd.func42, Tryd.ntmps42
  go_wp2_with fail
  go_ret
  refine ⟨ret_int ?_, rfl⟩
  rw [oA hu, oB hu, oC hu]
  obtain ⟨y4, y5, y6, h4, h5, h6, h7, h8⟩ := oD hu
  rw [h4, h5, h6, h7, i64_and127]
  omega
/-- How many numbers a set holds. -/
theorem cnt_word (p : Nat → Bool) (j : Nat) : cnt p (64 * (j + 1)) = cnt p (64 * j) + cnt (wd p j).testBit 64 := by
  rw [Nat.mul_add, Nat.mul_one, cnt_add]
  congr 1
  refine cnt_congr fun k hk => ?_
  rw [wd_bit, decide_eq_true hk, Bool.true_and]
theorem nums_len (p : Nat → Bool) : ∀ n, (numsB p n).length = cnt p n
  | 0 => rfl
  | n + 1 => by
    unfold cnt
    cases h : p n
    · rw [numsB_neg h, nums_len p n]; rfl
    · rw [numsB_pos h, List.length_append, nums_len p n]; rfl
theorem index_set (p : Nat → Bool) {j : Nat} (hj : j < 8) (w : World) : (Instr.index 24 (Value.agg #[.int .u64 (wd (p) 0 : Nat), .int .u64 (wd (p) 1 : Nat), .int .u64 (wd (p) 2 : Nat), .int .u64 (wd (p) 3 : Nat), .int .u64 (wd (p) 4 : Nat), .int .u64 (wd (p) 5 : Nat), .int .u64 (wd (p) 6 : Nat), .int .u64 (wd (p) 7 : Nat)]) (.int .i64 (j : Int))).run Tryd.prog w = .ok (.int .u64 (wd p j : Nat)) w := by
  have h := Tryd.underlying24
  match j, hj with
  | 0, _ => simp [Instr.index, run_underlying h, asIntOf, go_sem]
  | 1, _ => simp [Instr.index, run_underlying h, asIntOf, go_sem]
  | 2, _ => simp [Instr.index, run_underlying h, asIntOf, go_sem]
  | 3, _ => simp [Instr.index, run_underlying h, asIntOf, go_sem]
  | 4, _ => simp [Instr.index, run_underlying h, asIntOf, go_sem]
  | 5, _ => simp [Instr.index, run_underlying h, asIntOf, go_sem]
  | 6, _ => simp [Instr.index, run_underlying h, asIntOf, go_sem]
  | 7, _ => simp [Instr.index, run_underlying h, asIntOf, go_sem]
set_option maxHeartbeats 1000000 in
theorem Size_calls (p : Nat → Bool) (w : World) : Calls Tryd.prog 12 #[Value.agg #[.int .u64 (wd (p) 0 : Nat), .int .u64 (wd (p) 1 : Nat), .int .u64 (wd (p) 2 : Nat), .int .u64 (wd (p) 3 : Nat), .int .u64 (wd (p) 4 : Nat), .int .u64 (wd (p) 5 : Nat), .int .u64 (wd (p) 6 : Nat), .int .u64 (wd (p) 7 : Nat)]] w fun e w' => e = .returned (.int .i64 (cnt p 512)) ∧ Ext w w' := by
  go_enter Tryd.func12, Tryd.ntmps12
  go_wp2_with fail
  go_loopw [3, 7] (fun v3 v7 wr => ∃ j : Nat, v7 = .int .i64 j ∧ j ≤ 8 ∧ v3 = .int .i64 (cnt p (64 * j)) ∧ Ext w wr) (fun _ v7 _ => 8 - (intOf v7).toNat)
  case atStart => exact ⟨0, rfl, by omega, rfl, by (repeat (first | assumption | exact Ext.refl _ | apply Ext.alloc | apply Ext.drew | apply Ext.drewN | refine Ext.trans ?_ (by assumption)))⟩
  case round =>
    obtain ⟨j, rfl, hj, rfl, he⟩ := hrel
    by_cases hlt : j < 8
    · have harr := index_set p hlt
      have hb1 := cnt_le p (64 * j)
      have hb2 := cnt_le (wd p j).testBit 64
      have HC := Lib.hid (cnt_word p j)
      generalize cnt p (64 * j) = q at *
      go_wp2_with ((go_at_call 42; (with_reducible refine (ones_calls (wd p j) (wd_lt _ _) _).mono ?_); rintro e w' ⟨rfl, hw⟩; obtain rfl := hw.symm))
      go_roundw
      case rel => exact ⟨j + 1, by go_num, by omega, val_int (by rw [HC.out]; omega), by (repeat (first | assumption | exact Ext.refl _ | apply Ext.alloc | apply Ext.drew | apply Ext.drewN | refine Ext.trans ?_ (by assumption)))⟩
      case measure => simp [intOf]; omega
    · have hj' : j = 8 := by omega
      subst hj'
      go_wp2_with fail
      go_ret
      exact ⟨rfl, he⟩
end Go.Proofs.YtbmnjnmpjpdcmaaDoor
