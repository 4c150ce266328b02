/- Walks of package tree: copied, begin, Parts. Conditions: what a slice reads as; a length that memory bears. -/
import Derived.Test.YtkjedeofjkdlaaaTreeA
namespace Go.Proofs.Ytkjedeofjkdlaaa
open Go.RowKit Go.Eg

theorem elNd : Elem Try.prog 22 25 2 16 := Elem.mk (z := .agg #[.int .i64 0, .int .u8 0]) Try.underlying22 (by kernel_rfl) rfl (by decide)

set_option maxHeartbeats 400000 in
theorem copied_calls (t : List Nd) (v : Value) (w : World) (hr : Rd tyNd w t v) (hl : t.length ≤ 8796093022208) :
    Calls Try.prog 37 #[v] w fun e w' => ∃ v', e = .returned v' ∧ Own tyNd 25 w.heap.size No w' t v' ∧ Ext w w' := by
  obtain ⟨A, c, rfl, hlc, hcm⟩ := hr.shape
  unfold maxLen at hcm
  obtain ⟨z, ⟨i, hi, hz⟩, hzs, hmk⟩ := run_mk elNd
  have hz' : z = .agg #[.int .i64 0, .int .u8 0] := by
    have : (Try.prog.info? 25).map (fun i => i.zero) = some (some (.agg #[.int .i64 0, .int .u8 0])) := by kernel_rfl
    rw [hi, Option.map_some, hz] at this
    exact Option.some.inj (Option.some.inj this)
  subst hz'
  have hmk' := hmk t.length w (by omega) (by omega)
  clear hmk hi hz hzs
  go_enter Try.func37, Try.ntmps37
  go_wp2_with ((with_reducible refine gate_bi .copy #[.tmp 7, .tmp 8] ?_); refine wp_copy (t := tyNd) _ 25 w.heap.size 16 elNd No (.slice (some ⟨w.heap.size, 0, none⟩) t.length t.length) (List.replicate t.length ⟨0, 0⟩) rfl (Own.made (t := tyNd) _ ⟨0, 0⟩ rfl (fun _ _ => ⟨rfl, by decide⟩) (Nat.le_refl _) (by unfold maxLen; omega)) _ t rfl Any (hr.ext ((Ext.refl _).alloc _)) (fun _ _ h => h) (by simp) ?_; intro w1 ho hg hz; have hg' := (Ext.refl w).alloc (.cells (madeCells (Value.agg #[.int .i64 0, .int .u8 0]).cells (t.length * 2)) 25) |>.grown hg (by simp [Value.ownBlock]))
  go_ret
  exact ⟨_, rfl, by simpa using ho, hg'⟩

set_option maxHeartbeats 400000 in
theorem begin_calls (t pre : List Nd) (x : T) (post : List Nd) (hx : x.wf) (ht : t = pre ++ x.flat ++ post) (n : Int) (hn : n = ((pre.length + x.flat.length - 1 : Nat) : Int)) (v : Value) (w : World) (hr : Rd tyNd w t v) (hl : t.length ≤ 8796093022208) :
    Calls Try.prog 38 #[v, .int .i64 n] w fun e w' => e = .returned (.int .i64 (pre.length : Int)) ∧ Ext w w' := by
  obtain ⟨A, c, rfl, hlc, hcm⟩ := hr.shape
  unfold maxLen at hcm
  have hb0 := Bk.start (pre := pre) (post := post) hx
  rw [← ht] at hb0
  subst hn
  generalize pre.length + x.flat.length - 1 = k at *
  clear ht hx
  have hk := hb0.lt
  go_enter Try.func38, Try.ntmps38
  go_wp2_with fail
  go_loopw [1, 5] (fun v1 v5 wr => ∃ (k : Nat) (Ys : List T), v1 = .int .i64 k ∧ v5 = .int .i64 (Ys.length : Int) ∧ Bk t pre k Ys ∧ Ext w wr) (fun v1 _ _ => (intOf v1).toNat)
  case atStart => exact ⟨k, [x], rfl, rfl, hb0, Ext.refl _⟩
  case round =>
    clear hb0 hk
    obtain ⟨k, Ys, rfl, rfl, hb, he⟩ := hrel
    have hyl := hb.len
    have hlt := hb.lt
    obtain ⟨b, off, rfl, hbl, hc0, hc1⟩ := rd_node (hr.ext he) hlt
    obtain ⟨ha0, hn⟩ := hb.next
    have har := ar_le (nth t k).k
    clear hr hb
    generalize nth t k = n at *
    rcases hn with ⟨hz, hkp⟩ | ⟨hz, hk0, Zs, hb', hzl⟩
    · have hz' : ((Ys.length : Int) + (ar n.k - 1) == 0) = true := by simp [hz]
      subst hkp
      clear hz
      go_wp2_with (first | ((go_at_call 36; (with_reducible refine (parts_calls _ _).mono ?_); rintro e w2 ⟨rfl, h2⟩)))
      go_ret
      exact ⟨rfl, by (repeat (first | assumption | exact Ext.refl _ | apply Ext.alloc | apply Ext.drew | apply Ext.drewN | refine Ext.trans ?_ (by assumption)))⟩
    · have hz' : ((Ys.length : Int) + (ar n.k - 1) == 0) = false := by simp [hz]
      clear hz
      go_wp2_with (first | ((go_at_call 36; (with_reducible refine (parts_calls _ _).mono ?_); rintro e w2 ⟨rfl, h2⟩)))
      go_roundw
      case rel => exact ⟨k - 1, Zs, val_int (by omega), val_int hzl.symm, hb', by (repeat (first | assumption | exact Ext.refl _ | apply Ext.alloc | apply Ext.drew | apply Ext.drewN | refine Ext.trans ?_ (by assumption)))⟩
      case measure => simp [intOf]; omega
end Go.Proofs.Ytkjedeofjkdlaaa
