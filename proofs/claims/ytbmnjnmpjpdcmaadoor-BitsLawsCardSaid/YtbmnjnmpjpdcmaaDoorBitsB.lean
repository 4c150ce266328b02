/- Walks of sets: Of. Conditions: what a slice reads as. -/
import Derived.Test.YtbmnjnmpjpdcmaaDoorBitsA
import Derived.Deep.RegionHeld3
import Derived.Deep.DeepMust
import Derived.Deep.RegionWith
namespace Go.Proofs.YtbmnjnmpjpdcmaaDoor
open Go.RowKit Go.Eg

/-- A set's eight words, in a block that may be written. -/
def Arr (w : World) (b : Nat) (p : Nat → Bool) : Prop := ∀ j, j < 8 → w.cell? ⟨b, j, none⟩ = some (.int .u64 (wd p j : Nat)) ∧ w.frozen? ⟨b, j, none⟩ = false
def inR (x : Int) : Bool := decide (0 ≤ x) && decide (x < 512)
def okL (xs : List Int) : Bool := xs.all inR
def listSet (xs : List Int) (i : Nat) : Bool := xs.any fun x => x == (i : Int)

def ofS (xs : List Int) : Nat → Bool := if okL xs then listSet xs else fun _ => false
def ofE (xs : List Int) : Int := if okL xs then 0 else 11
theorem Arr.put {w : World} {b j u : Nat} {p p' : Nat → Bool} (h : Arr w b p) (hj : j < 8) (hu : u = wd p' j) (hp : ∀ k, k < 8 → k ≠ j → wd p' k = wd p k) : Arr (w.setCell ⟨b, j, none⟩ (.int .u64 (u : Nat))) b p' := by
  intro k hk
  obtain ⟨h1, h2⟩ := h k hk
  obtain ⟨h3, h4⟩ := h j hj
  subst hu
  by_cases hkj : k = j
  · subst hkj
    exact ⟨World.cell?_setCell_same w _ _ h1, by rw [World.frozen?_setCell]; exact h2⟩
  · rw [hp k hk hkj]
    exact ⟨by rw [World.cell?_setCell_other w _ _ _ (by simp [hkj])]; exact h1, by rw [World.frozen?_setCell]; exact h2⟩
def addSet (p : Nat → Bool) (x : Int) (i : Nat) : Bool := p i || x == (i : Int)
theorem shl_one (y : Int) (h0 : 0 ≤ y) (h1 : y < 64) : IntKind.u64.wrap (2 ^ min y.toNat 64) = 2 ^ y.toNat := by
  have hlt : 2 ^ y.toNat < 18446744073709551616 := Nat.pow_lt_pow_right (n := 64) (a := 2) (by omega) (by omega)
  have e : ((2 : Int) ^ y.toNat) = ((2 ^ y.toNat : Nat) : Int) := by simp
  rw [Nat.min_eq_left (by omega), e, IntKind.wrap_u64]
  generalize 2 ^ y.toNat = m at *
  omega
theorem add_word (p : Nat → Bool) (x : Int) (h0 : 0 ≤ x) : bits .or .u64 ((wd p (x / 64).toNat : Nat) : Int) (2 ^ (x % 64).toNat) = ((wd (addSet p x) (x / 64).toNat : Nat) : Int) := by
  have hb : (x % 64).toNat < 64 := by omega
  have hlt : 2 ^ (x % 64).toNat < 2 ^ 64 := Nat.pow_lt_pow_right (by omega) hb
  have e : ((2 : Int) ^ (x % 64).toNat) = ((2 ^ (x % 64).toNat : Nat) : Int) := by simp
  rw [e, u64_or_nat _ _ (wd_lt' _ _) hlt]
  congr 1
  refine word_ext (Nat.or_lt_two_pow (wd_lt _ _) hlt) (wd_lt _ _) fun b hb' => ?_
  rw [Nat.testBit_or, wd_bit, wd_bit, Nat.testBit_two_pow, addSet]
  simp only [hb', decide_true, Bool.true_and]
  congr 1
  by_cases e : (x % 64).toNat = b
  · have : x = ((64 * (x / 64).toNat + b : Nat) : Int) := by omega
    rw [decide_eq_true e]
    exact (beq_iff_eq.2 this).symm
  · have : ¬ x = ((64 * (x / 64).toNat + b : Nat) : Int) := by omega
    rw [decide_eq_false e]
    exact (beq_eq_false_iff_ne.2 this).symm
theorem add_other (p : Nat → Bool) (x : Int) (h0 : 0 ≤ x) (k : Nat) (hk : k ≠ (x / 64).toNat) : wd (addSet p x) k = wd p k :=
  wd_congr fun b hb => by
    unfold addSet
    have : ¬ x = ((64 * k + b : Nat) : Int) := by omega
    rw [beq_eq_false_iff_ne.2 this, Bool.or_false]
theorem listSet_snoc (xs : List Int) (x : Int) : listSet (xs ++ [x]) = addSet (listSet xs) x := by
  funext i; simp [listSet, addSet]
theorem listSet_take {xs : List Int} {i : Nat} {x : Int} (h : xs[i]? = some x) : listSet (xs.take (i + 1)) = addSet (listSet (xs.take i)) x := by
  rw [List.take_add_one, h]; exact listSet_snoc _ _
theorem wd_none (j : Nat) : wd (fun _ => false) j = 0 := word_ext (wd_lt _ _) (by decide) fun b _ => by rw [wd_bit]; simp
theorem Arr.other {w : World} {b j b' : Nat} {p : Nat → Bool} {u : Value} (h : Arr w b p) (hb : b ≠ b') : Arr (w.setCell ⟨b', j, none⟩ u) b p := by
  intro k hk
  obtain ⟨h1, h2⟩ := h k hk
  exact ⟨by rw [World.cell?_setCell_other w _ _ _ (fun e => hb (congrArg Addr.block e).symm)]; exact h1, by rw [World.frozen?_setCell]; exact h2⟩
theorem Arr.drew {w : World} {b : Nat} {p : Nat → Bool} (h : Arr w b p) : Arr w.drew b p := h

set_option maxHeartbeats 1000000 in
set_option maxRecDepth 100000 in
theorem rOf_calls (xs : List Int) (v : Value) (w : World) (hr : Rd (Ty.int .i64) w xs v) :
    Calls Tryd.prog 16 #[v] w fun e w' => e = .returned (.tuple #[Value.agg #[.int .u64 (wd (ofS xs) 0 : Nat), .int .u64 (wd (ofS xs) 1 : Nat), .int .u64 (wd (ofS xs) 2 : Nat), .int .u64 (wd (ofS xs) 3 : Nat), .int .u64 (wd (ofS xs) 4 : Nat), .int .u64 (wd (ofS xs) 5 : Nat), .int .u64 (wd (ofS xs) 6 : Nat), .int .u64 (wd (ofS xs) 7 : Nat)], .int .i64 (ofE xs)]) ∧ Ext w w' := by
  obtain ⟨A, c, rfl, hlc, hcm⟩ := hr.shape
  unfold maxLen at hcm
  go_enter Tryd.func16, Tryd.ntmps16
  go_wp2_with fail
  go_loopw [5] (fun v5 wr => ∃ i : Nat, v5 = .int .i64 i ∧ i ≤ xs.length ∧ Hid ((xs.take i).all inR = true) ∧ Hid (Arr wr (w.heap.size + 1) (listSet (xs.take i))) ∧ Hid (Arr wr w.heap.size (fun _ => false)) ∧ Ext w wr ∧ w.heap.size + 1 < wr.heap.size) (fun v5 _ => xs.length - (intOf v5).toNat)
  case atStart =>
    refine ⟨0, rfl, by omega, rfl, ?_, ?_, by (repeat (first | assumption | exact Ext.refl _ | apply Ext.alloc | apply Ext.drew | apply Ext.drewN | refine Ext.trans ?_ (by assumption))), by simp⟩
    rotate_left
    · refine Lib.hid (fun j hj => ?_)
      rw [wd_none]
      match j, hj with
      | 0, _ => simp
      | 1, _ => simp
      | 2, _ => simp
      | 3, _ => simp
      | 4, _ => simp
      | 5, _ => simp
      | 6, _ => simp
      | 7, _ => simp
    refine Lib.hid (fun j hj => ?_)
    rw [show listSet (xs.take 0) = fun _ => false by funext i; simp [listSet], wd_none]
    match j, hj with
    | 0, _ => simp
    | 1, _ => simp
    | 2, _ => simp
    | 3, _ => simp
    | 4, _ => simp
    | 5, _ => simp
    | 6, _ => simp
    | 7, _ => simp
  case round =>
    obtain ⟨i, rfl, hi, HOK, HA, HZ, he, hbw⟩ := hrel
    by_cases hlt : i < xs.length
    · obtain ⟨x, hx⟩ : ∃ x, xs[i]? = some x := ⟨_, List.getElem?_eq_getElem hlt⟩
      obtain ⟨b, off, rfl, hb, hc⟩ := (hr.ext he).int hx
      have hi0 : (0 : Int) ≤ (i : Int) := by omega
      have hi1 : (i : Int) < xs.length := by omega
      by_cases hin : inR x = false
      · have HB : Hid (okL xs = false) := by
          show _ = _
          cases hh : okL xs with
          | false => rfl
          | true => exact absurd (List.all_eq_true.1 hh x (List.mem_of_getElem? hx)) (by rw [hin]; decide)
        have HS : Hid (ofS xs = fun _ => false) := by show _ = _; unfold ofS; rw [HB.out]; rfl
        have HE : Hid (ofE xs = 11) := by show _ = _; unfold ofE; rw [HB.out]; rfl
        have HZZ := HZ.out
        obtain ⟨d0, f0⟩ := HZZ 0 (by omega)
        obtain ⟨d1, f1⟩ := HZZ 1 (by omega)
        obtain ⟨d2, f2⟩ := HZZ 2 (by omega)
        obtain ⟨d3, f3⟩ := HZZ 3 (by omega)
        obtain ⟨d4, f4⟩ := HZZ 4 (by omega)
        obtain ⟨d5, f5⟩ := HZZ 5 (by omega)
        obtain ⟨d6, f6⟩ := HZZ 6 (by omega)
        obtain ⟨d7, f7⟩ := HZZ 7 (by omega)
        clear HZZ hx hr
        have hE : Ext w ((((((((wr.setCell ⟨w.heap.size, 0, none⟩ (.int .u64 0)).setCell ⟨w.heap.size, 1, none⟩ (.int .u64 0)).setCell ⟨w.heap.size, 2, none⟩ (.int .u64 0)).setCell ⟨w.heap.size, 3, none⟩ (.int .u64 0)).setCell ⟨w.heap.size, 4, none⟩ (.int .u64 0)).setCell ⟨w.heap.size, 5, none⟩ (.int .u64 0)).setCell ⟨w.heap.size, 6, none⟩ (.int .u64 0)).setCell ⟨w.heap.size, 7, none⟩ (.int .u64 0)) := (((((((he.set (Nat.le_refl _) _).set (Nat.le_refl _) _).set (Nat.le_refl _) _).set (Nat.le_refl _) _).set (Nat.le_refl _) _).set (Nat.le_refl _) _).set (Nat.le_refl _) _).set (Nat.le_refl _) _
        have HEX := Lib.hid hE
        clear hE
        by_cases h0 : x < 0
        · clear hin
          go_wp2_with fail
          exact bodyPost_ret (v := .tuple #[.agg #[.int .u64 0, .int .u64 0, .int .u64 0, .int .u64 0, .int .u64 0, .int .u64 0, .int .u64 0, .int .u64 0], .int .i64 11]) (by simp [results, Tryd.results16, go_sem, *]) rfl ⟨by rw [HS.out, HE.out]; simp [wd_none], HEX.out⟩
        · have h1 : 512 ≤ x := by
            simp [inR] at hin; omega
          have h0' : decide (x < 0) = false := by simpa using h0
          clear hin h0
          go_wp2_with fail
          exact bodyPost_ret (v := .tuple #[.agg #[.int .u64 0, .int .u64 0, .int .u64 0, .int .u64 0, .int .u64 0, .int .u64 0, .int .u64 0, .int .u64 0], .int .i64 11]) (by simp [results, Tryd.results16, go_sem, *]) rfl ⟨by rw [HS.out, HE.out]; simp [wd_none], HEX.out⟩
      replace hin : inR x = true := by simpa using hin
      have HOK' : Hid ((xs.take (i + 1)).all inR = true) := by show _ = _; rw [List.take_add_one, hx]; simp [HOK.out, hin]
      simp only [inR, Bool.and_eq_true, decide_eq_true_eq] at hin
      obtain ⟨h0, h1⟩ := hin
      obtain ⟨hw, hf⟩ := HA.out (x / 64).toNat (by omega)
      have hq0 : 0 ≤ x / 64 := by omega
      have hq1 : x / 64 < 8 := by omega
      have hq2 : 0 ≤ x % 64 := by omega
      have hq3 : x % 64 < 64 := by omega
      have hd1 : x.tdiv 64 = x / 64 := Int.tdiv_eq_ediv_of_nonneg h0
      have hd2 : x.tmod 64 = x % 64 := Int.tmod_eq_emod_of_nonneg h0
      have hd3 : IntKind.i64.wrap (x / 64) = x / 64 := IntWalk.i64_in _ (by omega)
      have hd4 : IntKind.i64.wrap (x % 64) = x % 64 := IntWalk.i64_in _ (by omega)
      have hd5 : IntKind.u64.wrap (x % 64) = x % 64 := by rw [IntKind.wrap_u64]; omega
      have hd6 := shl_one (x % 64) hq2 hq3
      have hd8 : IntKind.u64.wrap (2 ^ (x % 64).toNat) = 2 ^ (x % 64).toNat := by rw [Nat.min_eq_left (by omega)] at hd6; exact hd6
      have h0' : decide (x < 0) = false := by simpa using h0
      have h1' : decide (512 ≤ x) = false := by simpa using h1
      have HX := Lib.hid hx
      clear hx hr
      go_wp2_with fail
      have hd7 := add_word (listSet (xs.take i)) x h0
      rw [← listSet_take HX.out] at hd7
      have HA' : Hid (Arr (wr.setCell ⟨w.heap.size + 1, (x / 64).toNat, none⟩ (.int .u64 (wd (listSet (xs.take (i + 1))) (x / 64).toNat : Nat))) (w.heap.size + 1) (listSet (xs.take (i + 1)))) := by
        show Arr _ _ _
        rw [listSet_take HX.out]
        exact HA.out.put (by omega) rfl (fun k _ hk => add_other _ _ h0 k hk)
      have HE' : Hid (Ext w (wr.setCell ⟨w.heap.size + 1, (x / 64).toNat, none⟩ (.int .u64 (wd (listSet (xs.take (i + 1))) (x / 64).toNat : Nat)))) := he.set (Nat.le_succ _) _
      go_region_with (fail)
      all_goals
        go_wp2_with fail
        go_roundw
        case rel => exact ⟨i + 1, by go_num, by omega, HOK', Lib.hid HA'.out.drew, Lib.hid (HZ.out.other (by omega)).drew, HE'.out.drew, by simpa using hbw⟩
        case measure => simp [intOf]; omega
    · have hi' : i = xs.length := by omega
      subst hi'
      rw [List.take_length] at HA HOK
      have HS : Hid (ofS xs = listSet xs) := by show _ = _; unfold ofS okL; rw [HOK.out]; rfl
      have HE : Hid (ofE xs = 0) := by show _ = _; unfold ofE okL; rw [HOK.out]; rfl
      have HAA := HA.out
      obtain ⟨c0, -⟩ := HAA 0 (by omega)
      obtain ⟨c1, -⟩ := HAA 1 (by omega)
      obtain ⟨c2, -⟩ := HAA 2 (by omega)
      obtain ⟨c3, -⟩ := HAA 3 (by omega)
      obtain ⟨c4, -⟩ := HAA 4 (by omega)
      obtain ⟨c5, -⟩ := HAA 5 (by omega)
      obtain ⟨c6, -⟩ := HAA 6 (by omega)
      obtain ⟨c7, -⟩ := HAA 7 (by omega)
      have HZZ := HZ.out
      obtain ⟨d0, f0⟩ := HZZ 0 (by omega)
      obtain ⟨d1, f1⟩ := HZZ 1 (by omega)
      obtain ⟨d2, f2⟩ := HZZ 2 (by omega)
      obtain ⟨d3, f3⟩ := HZZ 3 (by omega)
      obtain ⟨d4, f4⟩ := HZZ 4 (by omega)
      obtain ⟨d5, f5⟩ := HZZ 5 (by omega)
      obtain ⟨d6, f6⟩ := HZZ 6 (by omega)
      obtain ⟨d7, f7⟩ := HZZ 7 (by omega)
      clear HAA HZZ
      go_wp2_with fail
      exact bodyPost_ret (v := .tuple #[Value.agg #[.int .u64 (wd (listSet xs) 0 : Nat), .int .u64 (wd (listSet xs) 1 : Nat), .int .u64 (wd (listSet xs) 2 : Nat), .int .u64 (wd (listSet xs) 3 : Nat), .int .u64 (wd (listSet xs) 4 : Nat), .int .u64 (wd (listSet xs) 5 : Nat), .int .u64 (wd (listSet xs) 6 : Nat), .int .u64 (wd (listSet xs) 7 : Nat)], .int .i64 0]) (by simp [results, Tryd.results16, go_sem, *]) rfl ⟨by rw [HS.out, HE.out], (((((((he.set (Nat.le_refl _) _).set (Nat.le_refl _) _).set (Nat.le_refl _) _).set (Nat.le_refl _) _).set (Nat.le_refl _) _).set (Nat.le_refl _) _).set (Nat.le_refl _) _).set (Nat.le_refl _) _⟩
end Go.Proofs.YtbmnjnmpjpdcmaaDoor
