/- Walk of package tree: Rename. Conditions: what a slice reads as. -/
import Derived.Test.YtkjedeofjkdlaaaTreeB
namespace Go.Proofs.Ytkjedeofjkdlaaa
open Go.RowKit Go.Eg

/-- What Rename comes to. -/
def RenamePost (t : List Nd) (s : ByteArray) (w : World) (e : Ending) (w' : World) : Prop :=
  ∃ v', e = .returned (.tuple #[v', .int .i64 (renE t (bt s) s.size)]) ∧ Own tyNd 25 w.heap.size No w' (renL t (bt s) s.size) v' ∧ Ext w w'
theorem RenamePost.err {t : List Nd} {s : ByteArray} {w w' : World} {x : Int} (h : renE t (bt s) s.size = x) (hx : x ≠ 0) (he : Ext w w') : RenamePost t s w (.returned (.tuple #[.slice none 0 0, .int .i64 x])) w' :=
  ⟨_, by rw [h], by unfold renL; rw [if_neg (by rw [h]; exact hx)]; exact Own.nil _ _ _ _ _, he⟩

set_option maxHeartbeats 2000000 in
set_option maxRecDepth 100000 in
theorem Rename_calls (t : List Nd) (s : ByteArray) (v : Value) (w : World) (hr : Rd tyNd w t v) (hss : s.size ≤ 140737488351232) :
    Calls Try.prog 32 #[v, .string s] w (RenamePost t s w) := by
  by_cases h : errW t = 0
  · obtain ⟨hl, hok⟩ := errW_ok h
    have HG := Lib.hid (ok_good hok)
    have HB := Lib.hid (fun i (hi : i < t.length) => rd_byte hr hi)
    clear hok
    by_cases h8 : s.size = 8
    · have h8' : ((s.size : Int) != 8) = false := by simp [h8]
      have HE : Hid (renE t (bt s) s.size = if allAH (bt s) s.size then 0 else 21) := by
        show _ = _; unfold renE; rw [if_neg (by simp [h]), if_neg (by simp [h8])]
      have H8 := Lib.hid h8
      clear h8
      go_enter Try.func32, Try.ntmps32
      go_wp2_with (first | ((go_at_call 35; (with_reducible refine (wrong_calls t _ _ hr).mono ?_); rintro e w1 ⟨rfl, h1⟩); rw [h]))
      go_loopw [20] (fun v20 wr => ∃ i : Nat, v20 = .int .i64 i ∧ i ≤ s.size ∧ Hid (allAH (bt s) i = true) ∧ wr = w1) (fun v20 _ => s.size - (intOf v20).toNat)
      case atStart => exact ⟨0, rfl, by omega, rfl, rfl⟩
      case round =>
        obtain ⟨i, rfl, hi, HA, rfl⟩ := hrel
        by_cases hlt : i < s.size
        · have hbt := bt_at s i
          have hbr := bt_range s i
          by_cases hc1 : bt s i < 97
          · have HX : Hid (renE t (bt s) s.size = 21) := by show _ = _; rw [HE.out, allAH_not hlt (by unfold isAH; simp; omega)]; rfl
            go_wp2_with fail
            go_ret2
            exact RenamePost.err HX.out (by decide) (by (repeat (first | assumption | exact Ext.refl _ | apply Ext.alloc | apply Ext.drew | apply Ext.drewN | refine Ext.trans ?_ (by assumption))))
          · by_cases hc2 : 104 < bt s i
            · have HX : Hid (renE t (bt s) s.size = 21) := by show _ = _; rw [HE.out, allAH_not hlt (by unfold isAH; simp; omega)]; rfl
              have hc1' : decide (bt s i < 97) = false := by simpa using hc1
              go_wp2_with fail
              go_ret2
              exact RenamePost.err HX.out (by decide) (by (repeat (first | assumption | exact Ext.refl _ | apply Ext.alloc | apply Ext.drew | apply Ext.drewN | refine Ext.trans ?_ (by assumption))))
            · have HA' : Hid (allAH (bt s) (i + 1) = true) := by show _ = _; rw [allAH_succ, HA.out]; unfold isAH; simp; omega
              have hc1' : decide (bt s i < 97) = false := by simpa using hc1
              have hc2' : decide (104 < bt s i) = false := by simpa using hc2
              go_wp2_with fail
              go_roundw
              case rel => exact ⟨i + 1, by go_num, by omega, HA', by first | rfl | trivial⟩
              case measure => simp [intOf]; omega
        · have hi' : i = s.size := by omega
          subst hi'
          have HX : Hid (renE t (bt s) s.size = 0) := by show _ = _; rw [HE.out, HA.out]; rfl
          go_wp2_with (first | ((go_at_call 37; (with_reducible refine (copied_calls t _ _ (hr.ext h1) (by omega)).mono ?_); rintro e w2 ⟨v2, rfl, ho2, h2⟩); obtain ⟨A2, c2, rfl, h21, h22⟩ := ho2.shape))
          have hx2 : Ext w w2 := by (repeat (first | assumption | exact Ext.refl _ | apply Ext.alloc | apply Ext.drew | apply Ext.drewN | refine Ext.trans ?_ (by assumption)))
          clear hr
          go_loopw [38] (fun v38 wr => ∃ i : Nat, v38 = .int .i64 i ∧ i ≤ t.length ∧ Own tyNd 25 w.heap.size No wr ((t.take i).map (renN (bt s)) ++ t.drop i) (.slice A2 t.length c2) ∧ Ext w wr) (fun v38 _ => t.length - (intOf v38).toNat)
          case atStart => exact ⟨0, rfl, by omega, by simpa using ho2.rebase (fun k hk => Nat.le_trans h1.le (ho2.lo k hk)), hx2⟩
          case round =>
            obtain ⟨i, rfl, hi, ho, he⟩ := hrel
            by_cases hlt : i < t.length
            · have hat := ren_at (bt s) hlt
              have HS := Lib.hid (ren_set (bt s) hlt)
              have HK := Lib.hid (ren_keep (bt s) hlt)
              rcases ho.zero with ⟨-, h0, -⟩ | ⟨g, rfl, hg1, hg2, -⟩
              · omega
              obtain ⟨b, off, cs, e, hbb, ⟨rfl, hby⟩, ha⟩ := ho.rd.at hat
              cases e
              have hc0 : wr.cell? ⟨g, i * 2, none⟩ = some (.int .i64 (nth t i).k) := by have := ha 0 _ rfl; rwa [Nat.zero_add] at this
              have hc1 : wr.cell? ⟨g, i * 2 + 1, none⟩ = some (.int .u8 (nth t i).s) := by have := ha 1 _ rfl; rwa [Nat.zero_add] at this
              have hf1 : wr.frozen? ⟨g, i * 2 + 1, none⟩ = false := ho.free _
              have hgd := HG.out _ (nth_mem hlt)
              generalize nth t i = n at *
              clear ha
              by_cases h3 : n.k = 3
              · have h3' : (n.k == 3) = true := by simp [h3]
                obtain ⟨hs1, hs2⟩ := good_letter hgd h3
                have H3 := Lib.hid h3
                have hd1 : (n.s - 97).toNat < s.size := by have := H8.out; omega
                have hbt := bt_at s (n.s - 97).toNat
                have hbr := bt_range s (n.s - 97).toNat
                have hst := ho.store (j := 1) hat (by decide) (.int .u8 (bt s (n.s - 97).toNat)) (renN (bt s) n) (fun cs hcs => by
                  obtain ⟨rfl, _⟩ := hcs
                  have hrn : renN (bt s) n = ⟨3, bt s (n.s - 97).toNat⟩ := if_pos h3
                  rw [hrn]
                  exact ⟨by simp [h3], hbr⟩)
                rw [HS.out] at hst
                obtain ⟨hst1, hst2⟩ := hst
                have hex := Ext.grown he hst2 (fun k hk => by cases hk; exact hg1)
                have HST := Lib.hid hst1
                clear h3 hat ho hgd hst1 hst2 hby
                have hd2 : (0 : Int) ≤ n.s - 97 := by omega
                go_wp2_with fail
                go_roundw
                case rel => exact ⟨i + 1, by go_num, by omega, HST.out, hex⟩
                case measure => simp [intOf]; omega
              · have h3' : (n.k == 3) = false := by simp [h3]
                have HKP := Lib.hid (HK.out (if_neg h3))
                clear hat h3 hgd
                go_wp2_with fail
                go_roundw
                case rel => exact ⟨i + 1, by go_num, by omega, by rw [HKP.out]; exact ho, he⟩
                case measure => simp [intOf]; omega
            · have hi' : i = t.length := by omega
              subst hi'
              go_wp2_with fail
              go_ret2
              exact ⟨_, by rw [HX.out]; rfl, by unfold renL; rw [if_pos HX.out]; simpa using ho, he⟩
    · have h8' : ((s.size : Int) != 8) = true := by simp; omega
      have HE : Hid (renE t (bt s) s.size = 1) := by show _ = _; unfold renE; rw [if_neg (by simp [h]), if_pos h8]
      clear h8
      go_enter Try.func32, Try.ntmps32
      go_wp2_with (first | ((go_at_call 35; (with_reducible refine (wrong_calls t _ _ hr).mono ?_); rintro e w1 ⟨rfl, h1⟩); rw [h]))
      go_ret2
      exact RenamePost.err HE.out (by decide) (by (repeat (first | assumption | exact Ext.refl _ | apply Ext.alloc | apply Ext.drew | apply Ext.drewN | refine Ext.trans ?_ (by assumption))))
  · have h' : (errW t != 0) = true := by simp [h]
    have HE : Hid (renE t (bt s) s.size = errW t) := if_pos h
    go_enter Try.func32, Try.ntmps32
    go_wp2_with ((go_at_call 35; (with_reducible refine (wrong_calls t _ _ hr).mono ?_); rintro e w1 ⟨rfl, h1⟩))
    go_ret2
    exact RenamePost.err HE.out h (by (repeat (first | assumption | exact Ext.refl _ | apply Ext.alloc | apply Ext.drew | apply Ext.drewN | refine Ext.trans ?_ (by assumption))))
end Go.Proofs.Ytkjedeofjkdlaaa
