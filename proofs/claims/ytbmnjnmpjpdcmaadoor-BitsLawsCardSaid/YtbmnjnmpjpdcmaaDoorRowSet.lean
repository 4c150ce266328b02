/- Sets, fields, words and lists of numbers as a row's arguments. Conditions: none. -/
import Derived.Test.YtbmnjnmpjpdcmaaDoorRowLib
import Derived.Test.YtbmnjnmpjpdcmaaDoorSetM
import Derived.OpenShut
import Derived.Test.YtbmnjnmpjpdcmaaDoorProg
namespace Go.Proofs.YtbmnjnmpjpdcmaaDoor
open Go.RowKit Go.Eg Go.ChangeShapes Go.WideShapes

theorem okWide_array {P : Program} {t e : TypeId} {n : Nat} {w : World} {r : Reach} {base : Nat} {v : Value} (ht : P.underlying t = some (.array n e)) (h : Value.okWide P w r base t v) : ∃ cs, v = .agg cs ∧ cs.size = P.cellsOf t := by
  simp only [Value.okWide, ht] at h
  obtain ⟨cs, h1, h2, _⟩ := h
  exact ⟨cs, h1, h2⟩
theorem wf_u64 {a : Int} (h : (Lit.int .u64 a).wf = true) : 0 ≤ a ∧ a < 18446744073709551616 := by
  simp [Lit.wf, IntKind.min, IntKind.max] at h
  simp [IntKind.signed, IntKind.bits] at h
  omega
theorem set_of (a : Nat → Nat) (h : ∀ j, a j < 2 ^ 64) : ∃ p : Nat → Bool, ∀ j, wd p j = a j := ⟨bitsOf a, fun j => wd_bitsOf (h j)⟩
theorem arg_set {H : Type} {enc : TypeId × Value → H} {w : World} {r : Reach} {base b0 : Nat} {spare : Nat → Bool} {held : Bool} {v : Value} {d : DataW H} {ps : List MemPlace}
    (hv : Value.okWide Tryd.prog w r b0 24 v) (hd : DataW.Trod enc Tryd.prog w base spare held 24 v d ps) (_ : Fits Tryd.prog 24 d) :
    ∃ p : Nat → Bool, v = Value.agg #[.int .u64 (wd (p) 0 : Nat), .int .u64 (wd (p) 1 : Nat), .int .u64 (wd (p) 2 : Nat), .int .u64 (wd (p) 3 : Nat), .int .u64 (wd (p) 4 : Nat), .int .u64 (wd (p) 5 : Nat), .int .u64 (wd (p) 6 : Nat), .int .u64 (wd (p) 7 : Nat)] := by
  obtain ⟨cs, rfl, -⟩ := okWide_array Tryd.underlying24 hv
  obtain ⟨fuel, hx⟩ := hd
  obtain ⟨xs, m, -, -, hl, hxl, hf⟩ := DataW.trod_array Tryd.underlying24 hx
  have hc : Tryd.prog.cellsOf 24 = 8 := by kernel_rfl
  have c1 : Tryd.prog.cellsOf 22 = 1 := by kernel_rfl
  rw [hc] at hl
  obtain ⟨cl⟩ := cs
  change cl.length = 8 at hl
  change ∀ i, i < 8 → DataW.trod enc Tryd.prog w base spare held m 22 ((cl.drop (i * Tryd.prog.cellsOf 22)).take (Tryd.prog.cellsOf 22)) = xs[i]? at hf
  have each : ∀ i, i < 8 → ∃ a : Nat, a < 2 ^ 64 ∧ cl[i]? = some (.int .u64 (a : Nat)) := fun i hi => by
    have g := hf i hi
    rw [c1, List.getElem?_eq_getElem (by omega)] at g
    obtain ⟨a, e, _, hw⟩ := DataW.trod_int Tryd.underlying22 g
    have hb := wf_u64 hw
    refine ⟨a.toNat, by omega, ?_⟩
    rw [Int.toNat_of_nonneg hb.1]
    have := congrArg (·[0]?) e
    simpa using this
  match cl, hl, each with
  | [v0, v1, v2, v3, v4, v5, v6, v7], _, each =>
    obtain ⟨a0, h0, e0⟩ := each 0 (by omega)
    obtain ⟨a1, h1, e1⟩ := each 1 (by omega)
    obtain ⟨a2, h2, e2⟩ := each 2 (by omega)
    obtain ⟨a3, h3, e3⟩ := each 3 (by omega)
    obtain ⟨a4, h4, e4⟩ := each 4 (by omega)
    obtain ⟨a5, h5, e5⟩ := each 5 (by omega)
    obtain ⟨a6, h6, e6⟩ := each 6 (by omega)
    obtain ⟨a7, h7, e7⟩ := each 7 (by omega)
    cases e0; cases e1; cases e2; cases e3; cases e4; cases e5; cases e6; cases e7
    obtain ⟨p, hp⟩ := set_of (fun j => match j with | 0 => a0 | 1 => a1 | 2 => a2 | 3 => a3 | 4 => a4 | 5 => a5 | 6 => a6 | 7 => a7 | _ => 0) (fun j => by
      match j with
      | 0 => exact h0
      | 1 => exact h1
      | 2 => exact h2
      | 3 => exact h3
      | 4 => exact h4
      | 5 => exact h5
      | 6 => exact h6
      | 7 => exact h7
      | n + 8 => exact Nat.two_pow_pos 64)
    exact ⟨p, by rw [hp 0, hp 1, hp 2, hp 3, hp 4, hp 5, hp 6, hp 7]; rfl⟩
theorem arg_int {H : Type} {enc : TypeId × Value → H} {w : World} {r : Reach} {base b0 : Nat} {spare : Nat → Bool} {held : Bool} {v : Value} {d : DataW H} {ps : List MemPlace}
    (hv : Value.okWide Tryd.prog w r b0 3 v) (hd : DataW.Trod enc Tryd.prog w base spare held 3 v d ps) (_ : Fits Tryd.prog 3 d) : ∃ x, v = .int .i64 x ∧ IntIn .i64 x := by
  obtain ⟨a, rfl, rfl, rfl, hw⟩ := open_int Tryd.underlying3 hv hd
  exact ⟨a, rfl, hw⟩
theorem arg_word {H : Type} {enc : TypeId × Value → H} {w : World} {r : Reach} {base b0 : Nat} {spare : Nat → Bool} {held : Bool} {v : Value} {d : DataW H} {ps : List MemPlace}
    (hv : Value.okWide Tryd.prog w r b0 22 v) (hd : DataW.Trod enc Tryd.prog w base spare held 22 v d ps) (_ : Fits Tryd.prog 22 d) : ∃ x : Nat, v = .int .u64 (x : Nat) ∧ x < 2 ^ 64 := by
  obtain ⟨a, rfl, rfl, rfl, hw⟩ := open_int Tryd.underlying22 hv hd
  have hb := wf_u64 hw
  exact ⟨a.toNat, by rw [Int.toNat_of_nonneg hb.1], by omega⟩
theorem arg_ints {H : Type} {enc : TypeId × Value → H} {w : World} {r : Reach} {base b0 : Nat} {spare : Nat → Bool} {held : Bool} {v : Value} {d : DataW H} {ps : List MemPlace}
    (hv : Value.okWide Tryd.prog w r b0 31 v) (hd : DataW.Trod enc Tryd.prog w base spare held 31 v d ps) (hf : Fits Tryd.prog 31 d) :
    ∃ xs, Rd (Ty.int .i64) w xs v ∧ xs.length * 8 ≤ 140737488351232 ∧ ∀ x ∈ xs, IntIn .i64 x := by
  obtain ⟨xs, hr, hl, hx⟩ := arg_slice (t := Ty.int .i64) Tryd.underlying31 (by kernel_rfl) (by decide) (Opens.int Tryd.underlying3) hv hd hf
  have hb : Tryd.prog.bytesOf 3 = 8 := by kernel_rfl
  rw [hb] at hl
  exact ⟨xs, hr, hl, hx⟩
theorem IntIn.bd {x : Int} (h : IntIn .i64 x) : -9223372036854775808 ≤ x ∧ x ≤ 9223372036854775807 := by
  unfold IntIn at h
  simp [Lit.wf, IntKind.min, IntKind.max] at h
  simp [IntKind.signed, IntKind.bits] at h
  omega
end Go.Proofs.YtbmnjnmpjpdcmaaDoor
