/- Walks of package syntax: a piece's at, two. Conditions: texts that memory bears. -/
import Derived.Test.YtaijjnndnoicpaaProg
import Derived.Test.YtaijjnndnoicpaaEgLib
import Derived.Test.YtaijjnndnoicpaaSynP
import Derived.Test.YtaijjnndnoicpaaTreeB
import Derived.Lib.Hide
import Derived.IntWalk
import Derived.Deep.RegionWith
namespace Go.Eg
/-- A text in brackets, if it does not bind strongly enough. -/
def wrapB (b least : Nat) (t : ByteArray) : ByteArray := if b < least then ⟨#[40]⟩ ++ t ++ ⟨#[41]⟩ else t
/-- A list of signs as a text. -/
def txt (l : List Int) : ByteArray := ⟨(l.map (fun x => UInt8.ofNat x.toNat)).toArray⟩
theorem txt_append (l m : List Int) : txt (l ++ m) = txt l ++ txt m := by
  apply ByteArray.ext
  simp [txt]
theorem txt_size (l : List Int) : (txt l).size = l.length := by simp [txt, ByteArray.size]
theorem txt_wrap (b least : Nat) (l : List Int) : wrapB b least (txt l) = txt (wrapP b l least) := by
  unfold wrapB wrapP
  split
  · rw [show (40 :: l ++ [41] : List Int) = ([40] ++ l) ++ [41] by simp, txt_append, txt_append]; rfl
  · rfl
theorem wrapB_size (b least : Nat) (t : ByteArray) : (wrapB b least t).size ≤ t.size + 2 := by
  unfold wrapB
  split
  · simp only [ByteArray.size_append]
    have h1 : (⟨#[40]⟩ : ByteArray).size = 1 := rfl
    have h2 : (⟨#[41]⟩ : ByteArray).size = 1 := rfl
    omega
  · omega
end Go.Eg
namespace Go.Proofs.Ytaijjnndnoicpaa
open Go.RowKit Go.Eg

set_option maxHeartbeats 400000 in
theorem at_calls (t : ByteArray) (b least : Nat) (hb : b ≤ 6) (hl : least ≤ 6) (ht : t.size ≤ 1000000) (w : World) :
    Calls Try.prog 28 #[.agg #[.string t, .int .i64 b], .int .i64 least] w fun e w' => e = .returned (.string (wrapB b least t)) ∧ Ext w w' := by
  unfold wrapB
  by_cases h : b < least
  · rw [if_pos h]
    have h' : decide ((b : Int) < least) = true := by simp; omega
    go_enter Try.func28, Try.ntmps28
    go_wp2_with fail
    go_ret
    exact ⟨rfl, (Ext.refl w).alloc _⟩
  · rw [if_neg h]
    have h' : decide ((b : Int) < least) = false := by simp; omega
    go_enter Try.func28, Try.ntmps28
    go_wp2_with fail
    go_ret
    exact ⟨rfl, (Ext.refl w).alloc _⟩

set_option maxHeartbeats 4000000 in
theorem two_calls (bind : Nat) (hbd : bind ≤ 5) (sign t1 t2 : ByteArray) (b1 b2 : Nat) (hs : sign.size ≤ 1) (h1 : t1.size ≤ 1000000) (h2 : t2.size ≤ 1000000) (hb1 : b1 ≤ 6) (hb2 : b2 ≤ 6) (w : World) :
    Calls Try.prog 29 #[.int .i64 bind, .string sign, .agg #[.string t1, .int .i64 b1], .agg #[.string t2, .int .i64 b2]] w fun e w' =>
      e = .returned (.agg #[.string (wrapB b1 bind t1 ++ sign ++ wrapB b2 (bind + 1) t2), .int .i64 bind]) ∧ Ext w w' := by
  have HA := Lib.hid (fun W => at_calls t1 b1 bind hb1 (by omega) h1 W)
  have HB := Lib.hid (fun W => (by have := at_calls t2 b2 (bind + 1) hb2 (by omega) h2 W; rw [show ((bind + 1 : Nat) : Int) = (bind : Int) + 1 by omega] at this; exact this))
  have hz1 := wrapB_size b1 bind t1
  have hz2 := wrapB_size b2 (bind + 1) t2
  generalize wrapB b1 bind t1 = u1 at *
  generalize wrapB b2 (bind + 1) t2 = u2 at *
  have hsum : IntKind.i64.wrap ((bind : Int) + 1) = (bind : Int) + 1 := IntWalk.i64_in _ (by omega)
  go_enter Try.func29, Try.ntmps29
  go_wp2_with fail
  generalize hW : ((w.alloc (.cells #[.string t1, .int .i64 b1] 59)).alloc (.cells #[.string t2, .int .i64 b2] 59)).alloc (.cells #[.string ⟨#[]⟩, .int .i64 0] 59) = W
  have hx : Ext w W := by rw [← hW]; exact (((Ext.refl w).alloc _).alloc _).alloc _
  have hc : W.cell? ⟨w.heap.size, 0, none⟩ = some (.string t1) ∧ W.cell? ⟨w.heap.size, 1, none⟩ = some (.int .i64 b1) ∧ W.cell? ⟨w.heap.size + 1, 0, none⟩ = some (.string t2) ∧ W.cell? ⟨w.heap.size + 1, 1, none⟩ = some (.int .i64 b2) ∧ W.heap.size = w.heap.size + 3 := by
    subst hW
    have x1 : Ext (w.alloc (.cells #[.string t1, .int .i64 b1] 59)) (((w.alloc (.cells #[.string t1, .int .i64 b1] 59)).alloc (.cells #[.string t2, .int .i64 b2] 59)).alloc (.cells #[.string ⟨#[]⟩, .int .i64 0] 59)) := ((Ext.refl _).alloc _).alloc _
    exact ⟨(x1.cell _ _ (by simp)).trans (by simp), (x1.cell _ _ (by simp)).trans (by simp), by simp [World.cell?_alloc_past, World.cell?_alloc_at], by simp [World.cell?_alloc_past, World.cell?_alloc_at], by simp⟩
  have hd : W.cell? ⟨w.heap.size + 1 + 1, 0, none⟩ = some (.string ⟨#[]⟩) ∧ W.cell? ⟨w.heap.size + 1 + 1, 1, none⟩ = some (.int .i64 0) ∧ W.frozen? ⟨w.heap.size + 1 + 1, 0, none⟩ = false ∧ W.frozen? ⟨w.heap.size + 1 + 1, 1, none⟩ = false := by
    subst hW
    refine ⟨by simp [World.cell?_alloc_at], by simp [World.cell?_alloc_at], ?_, ?_⟩ <;> simp [World.frozen?, World.alloc, -World.alloc_eq, Array.getElem_push]
  clear hW
  obtain ⟨c1, c2, c3, c4, c5⟩ := hc
  obtain ⟨d1, d2, d3, d4⟩ := hd
  have l1 : w.heap.size < W.heap.size := by omega
  have l2 : w.heap.size + 1 < W.heap.size := by omega
  have l3 : w.heap.size + 1 + 1 < W.heap.size := by omega
  have q1 : ¬ 9223372036854775807 < u1.size + sign.size := by omega
  have q2 : ¬ 9223372036854775807 < u1.size + sign.size + u2.size := by omega
  have q3 : u1.size + sign.size ≤ 9223372036854775807 := by omega
  have q4 : u1.size + sign.size + u2.size ≤ 9223372036854775807 := by omega
  go_region_with (first
    | ((go_at_call 28; (with_reducible refine (HA.out _).mono ?_); rintro e w1 ⟨rfl, e1⟩); (try replace e1 := Ext.undrew e1); have := (e1).cells; have := (e1).frozens; have : w.heap.size < w1.heap.size := Nat.lt_of_lt_of_le (by first | assumption | (simp; done) | (simp; omega)) (e1).le; have : w.heap.size + 1 < w1.heap.size := Nat.lt_of_lt_of_le (by first | assumption | (simp; done) | (simp; omega)) (e1).le; have : w.heap.size + 1 + 1 < w1.heap.size := Nat.lt_of_lt_of_le (by first | assumption | (simp; done) | (simp; omega)) (e1).le)
    | ((go_at_call 28; (with_reducible refine (HB.out _).mono ?_); rintro e w2 ⟨rfl, e2⟩); (try replace e2 := Ext.undrew e2); have := (e2).cells; have := (e2).frozens; have : w.heap.size < w2.heap.size := Nat.lt_of_lt_of_le (by first | assumption | (simp; done) | (simp; omega)) (e2).le; have : w.heap.size + 1 < w2.heap.size := Nat.lt_of_lt_of_le (by first | assumption | (simp; done) | (simp; omega)) (e2).le; have : w.heap.size + 1 + 1 < w2.heap.size := Nat.lt_of_lt_of_le (by first | assumption | (simp; done) | (simp; omega)) (e2).le))
  all_goals
    have m1 : ((w2.setCell ⟨w.heap.size + 1 + 1, 0, none⟩ (.string (u1 ++ sign ++ u2))).setCell ⟨w.heap.size + 1 + 1, 1, none⟩ (.int .i64 bind)).cell? ⟨w.heap.size + 1 + 1, 0, none⟩ = some (.string (u1 ++ sign ++ u2)) := by
      rw [World.cell?_setCell_other _ _ _ _ (by simp)]
      exact World.cell?_setCell_same w2 _ _ (show w2.cell? ⟨w.heap.size + 1 + 1, 0, none⟩ = some (.string ⟨#[]⟩) by simp [*])
    have m2 : ((w2.setCell ⟨w.heap.size + 1 + 1, 0, none⟩ (.string (u1 ++ sign ++ u2))).setCell ⟨w.heap.size + 1 + 1, 1, none⟩ (.int .i64 bind)).cell? ⟨w.heap.size + 1 + 1, 1, none⟩ = some (.int .i64 bind) := by
      exact World.cell?_setCell_same _ _ _ (show (w2.setCell ⟨w.heap.size + 1 + 1, 0, none⟩ (.string (u1 ++ sign ++ u2))).cell? ⟨w.heap.size + 1 + 1, 1, none⟩ = some (.int .i64 0) by rw [World.cell?_setCell_other _ _ _ _ (by simp)]; simp [*])
    have m3 : Ext w ((w2.setCell ⟨w.heap.size + 1 + 1, 0, none⟩ (.string (u1 ++ sign ++ u2))).setCell ⟨w.heap.size + 1 + 1, 1, none⟩ (.int .i64 bind)) := by
      refine ((?_ : Ext w w2).set (Nat.le_trans (Nat.le_succ _) (Nat.le_succ _)) _).set (Nat.le_trans (Nat.le_succ _) (Nat.le_succ _)) _
      (repeat (first | assumption | exact Ext.refl _ | apply Ext.alloc | apply Ext.drew | apply Ext.drewN | refine Ext.trans ?_ (by assumption)))
    generalize (w2.setCell ⟨w.heap.size + 1 + 1, 0, none⟩ (.string (u1 ++ sign ++ u2))).setCell ⟨w.heap.size + 1 + 1, 1, none⟩ (.int .i64 bind) = wz at *
    clear c1 c2 c3 c4 d1 d2 d3 d4
    go_wp2_with fail
    refine bodyPost_ret (v := .agg #[.string (u1 ++ sign ++ u2), .int .i64 bind]) ?_ rfl ⟨rfl, m3⟩
    simp only [results, Try.results29]
    go_simp
end Go.Proofs.Ytaijjnndnoicpaa
