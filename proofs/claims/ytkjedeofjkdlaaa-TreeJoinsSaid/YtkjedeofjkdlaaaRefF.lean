/- Walks of the reference of chapter 3: Reverse, Rename. Conditions: what slices read as. -/
import Derived.Test.YtkjedeofjkdlaaaRefE
namespace Go.Proofs.Ytkjedeofjkdlaaa
open Go.RowKit Go.Eg

theorem one_node {w : World} {e : TypeId} (k s : Int) (h : 0 ≤ s ∧ s ≤ 255) {b : Nat} (hb : b = w.heap.size) : SlP tyNd Any (w.alloc (.cells #[.int .i64 k, .int .u8 s] e)) [⟨k, s⟩] (.slice (some ⟨b, 0, none⟩) 1 1) := by
  subst hb
  exact SlP.one (t := tyNd) ⟨k, s⟩ #[.int .i64 k, .int .u8 s] (fun _ _ => ⟨rfl, h⟩)

set_option maxHeartbeats 400000 in
theorem rReverse_calls (t : List Nd) (v : Value) (w : World) (hr : Rd tyNd w t v) :
    Calls Try.prog 33 #[v] w (ReversePost t w) := by
  by_cases h : errW t = 0
  · obtain ⟨hl, hk⟩ := errW_ok h
    obtain ⟨hw, hf⟩ := tr_of hk
    have HR : Hid ((tr t).rev.flat = revF t) := by show _ = _; unfold revF; rw [if_pos h]
    have ht := turned_calls (tr t) hw
    have ht' : ∀ (u : Value) (w : World), Rd tyNd w t u → Calls Try.prog 51 #[u] w (MadePost (tr t).rev.flat w) := fun u w h => ht t u w hf.symm hl h
    clear hf hk ht
    go_enter Try.func33, Try.ntmps33
    go_wp2_with (first | ((go_at_call 39; (with_reducible refine (rWrong_calls t _ _ hr).mono ?_); rintro e w1 ⟨rfl, h1⟩); rw [h]) | ((go_at_call 51; (with_reducible refine (ht' _ _ (hr.ext (by (repeat (first | assumption | exact Ext.refl _ | apply Ext.alloc | apply Ext.drew | apply Ext.drewN | refine Ext.trans ?_ (by assumption)))))).mono ?_); rintro e w2 ⟨v2, rfl, ho2, h2⟩)))
    go_ret2
    exact ⟨v2, by rw [h]; rfl, by rw [← HR.out]; exact ho2.rebase (fun k hk => Nat.le_trans h1.le (ho2.lo k hk)), by (repeat (first | assumption | exact Ext.refl _ | apply Ext.alloc | apply Ext.drew | apply Ext.drewN | refine Ext.trans ?_ (by assumption)))⟩
  · have h' : (errW t != 0) = true := by simp [h]
    have HR : Hid (revF t = []) := if_neg h
    go_enter Try.func33, Try.ntmps33
    go_wp2_with ((go_at_call 39; (with_reducible refine (rWrong_calls t _ _ hr).mono ?_); rintro e w1 ⟨rfl, h1⟩))
    go_ret2
    exact ⟨_, rfl, by rw [HR.out]; exact Own.nil _ _ _ _ _, by (repeat (first | assumption | exact Ext.refl _ | apply Ext.alloc | apply Ext.drew | apply Ext.drewN | refine Ext.trans ?_ (by assumption)))⟩

set_option maxHeartbeats 2000000 in
set_option maxRecDepth 100000 in
theorem rRename_calls (t : List Nd) (s : ByteArray) (v : Value) (w : World) (hr : Rd tyNd w t v) (hss : s.size ≤ 140737488351232) :
    Calls Try.prog 34 #[v, .string s] w (RenamePost t s w) := by
  obtain ⟨A, c, rfl, hlc, hcm⟩ := hr.shape
  unfold maxLen at hcm
  by_cases h : errW t = 0
  · obtain ⟨hl, hok⟩ := errW_ok h
    have HG := Lib.hid (ok_good hok)
    have HB := Lib.hid (fun i (hi : i < t.length) => rd_byte hr hi)
    clear hok
    by_cases h8 : s.size = 8
    · have h8' : ((s.size : Int) != 8) = false := by simp [h8]
      have HE : Hid (renE t (bt s) s.size = if allAH (bt s) s.size then 0 else 21) := by
        show _ = _; unfold renE; rw [if_neg (by simp [h]), if_neg (by simp [h8])]
      have H8 := Lib.hid h8
      clear h8
      go_enter Try.func34, Try.ntmps34
      go_wp2_with (first | ((go_at_call 39; (with_reducible refine (rWrong_calls t _ _ hr).mono ?_); rintro e w1 ⟨rfl, h1⟩); rw [h]))
      go_loopw [7] (fun v20 wr => ∃ i : Nat, v20 = .int .i64 i ∧ i ≤ s.size ∧ Hid (allAH (bt s) i = true) ∧ wr = w1) (fun v20 _ => s.size - (intOf v20).toNat)
      case atStart => exact ⟨0, rfl, by omega, rfl, rfl⟩
      case round =>
        obtain ⟨i, rfl, hi, HA, rfl⟩ := hrel
        by_cases hlt : i < s.size
        · have hbt := bt_at s i
          have hbr := bt_range s i
          by_cases hc1 : bt s i < 97
          · have HX : Hid (renE t (bt s) s.size = 21) := by show _ = _; rw [HE.out, allAH_not hlt (by unfold isAH; simp; omega)]; rfl
            go_wp2_with fail
            go_ret2
            exact RenamePost.err HX.out (by decide) (by (repeat (first | assumption | exact Ext.refl _ | apply Ext.alloc | apply Ext.drew | apply Ext.drewN | refine Ext.trans ?_ (by assumption))))
          · by_cases hc2 : 104 < bt s i
            · have HX : Hid (renE t (bt s) s.size = 21) := by show _ = _; rw [HE.out, allAH_not hlt (by unfold isAH; simp; omega)]; rfl
              have hc1' : decide (bt s i < 97) = false := by simpa using hc1
              go_wp2_with fail
              go_ret2
              exact RenamePost.err HX.out (by decide) (by (repeat (first | assumption | exact Ext.refl _ | apply Ext.alloc | apply Ext.drew | apply Ext.drewN | refine Ext.trans ?_ (by assumption))))
            · have HA' : Hid (allAH (bt s) (i + 1) = true) := by show _ = _; rw [allAH_succ, HA.out]; unfold isAH; simp; omega
              have hc1' : decide (bt s i < 97) = false := by simpa using hc1
              have hc2' : decide (104 < bt s i) = false := by simpa using hc2
              go_wp2_with fail
              go_roundw
              case rel => exact ⟨i + 1, by go_num, by omega, HA', by first | rfl | trivial⟩
              case measure => simp [intOf]; omega
        · have hi' : i = s.size := by omega
          subst hi'
          have HX : Hid (renE t (bt s) s.size = 0) := by show _ = _; rw [HE.out, HA.out]; rfl
          have HBT : Hid (∀ i, i < t.length → (renN (bt s) (nth t i)).s ≤ 255 ∧ 0 ≤ (renN (bt s) (nth t i)).s) := fun i hi => by
            have := HB.out i hi
            have hbr := bt_range s ((nth t i).s - 97).toNat
            unfold renN
            split
            · exact ⟨hbr.2, hbr.1⟩
            · exact ⟨this.2, this.1⟩
          go_wp2_with fail
          go_loopw [8, 9] (fun v8 v9 wr => ∃ i : Nat, v9 = .int .i64 i ∧ i ≤ t.length ∧ Own tyNd 25 w.heap.size No wr ((t.take i).map (renN (bt s))) v8 ∧ Ext w wr) (fun _ v9 _ => t.length - (intOf v9).toNat)
          case atStart => exact ⟨0, rfl, by omega, Own.nil _ _ _ _ _, h1⟩
          case round =>
            obtain ⟨i, rfl, hi, ho, he⟩ := hrel
            by_cases hlt : i < t.length
            · obtain ⟨b, off, rfl, hb, hc0, hc1⟩ := rd_node (hr.ext he) hlt
              have hgd := HG.out _ (nth_mem hlt)
              have hnb := Lib.hid (HBT.out i hlt)
              have HS : Hid ((t.take (i + 1)).map (renN (bt s)) = (t.take i).map (renN (bt s)) ++ [renN (bt s) (nth t i)]) := by show _ = _; rw [List.take_add_one, nth_get hlt]; simp
              have hol : ((t.take i).map (renN (bt s))).length ≤ 4000 := by simp; omega
              obtain ⟨A8, c8, rfl, h81, h82⟩ := ho.shape
              have hbs := he.le
              generalize nth t i = n at *
              generalize (t.take i).map (renN (bt s)) = out at *
              clear hr
              by_cases h3 : n.k = 3
              · have h3' : (n.k == 3) = true := by simp [h3]
                obtain ⟨hs1, hs2⟩ := good_letter hgd h3
                have hd1 : (n.s - 97).toNat < s.size := by have := H8.out; omega
                have hbt := bt_at s (n.s - 97).toNat
                have hbr := bt_range s (n.s - 97).toNat
                have HRN : Hid (renN (bt s) n = ⟨n.k, bt s (n.s - 97).toNat⟩) := by show _ = _; rw [h3]; exact if_pos h3
                clear h3 hgd
                have hd2 : (0 : Int) ≤ n.s - 97 := by omega
                go_wp2_with (first | ((with_reducible refine gate_bi .append #[.tmp 54, .tmp 56] ?_); refine wp_append (t := tyNd) 25 w.heap.size 16 elNd No (.slice A8 out.length c8) out rfl ((ho.ext ((Ext.refl _).alloc _)).ext ((Ext.refl _).alloc _)) _ [⟨n.k, bt s (n.s - 97).toNat⟩] rfl Any (one_node n.k (bt s (n.s - 97).toNat) (bt_range _ _) (b := wr.heap.size + 1) (by simp)) (fun _ _ h => h) (by simp; omega) (by decide) (by simp; omega) ?_; intro v6 w6 ho6 hg6 _; have hx6 := Ext.grown ((he.alloc _).alloc _) hg6 (fun k hk => ho.lo k hk)))
                go_roundw
                case rel => exact ⟨i + 1, by go_num, by omega, by rw [HS.out, HRN.out]; exact ho6, hx6⟩
                case measure => simp [intOf]; omega
              · have h3' : (n.k == 3) = false := by simp [h3]
                have HRN : Hid (renN (bt s) n = n) := if_neg h3
                clear h3 hgd
                go_wp2_with (first | ((with_reducible refine gate_bi .append #[.tmp 54, .tmp 56] ?_); refine wp_append (t := tyNd) 25 w.heap.size 16 elNd No (.slice A8 out.length c8) out rfl ((ho.ext ((Ext.refl _).alloc _)).ext ((Ext.refl _).alloc _)) _ [n] rfl Any (one_node n.k n.s (by have := hnb.out; rw [HRN.out] at this; exact ⟨this.2, this.1⟩) (b := wr.heap.size + 1) (by simp)) (fun _ _ h => h) (by simp; omega) (by decide) (by simp; omega) ?_; intro v6 w6 ho6 hg6 _; have hx6 := Ext.grown ((he.alloc _).alloc _) hg6 (fun k hk => ho.lo k hk)))
                go_roundw
                case rel => exact ⟨i + 1, by go_num, by omega, by rw [HS.out, HRN.out]; exact ho6, hx6⟩
                case measure => simp [intOf]; omega
            · have hi' : i = t.length := by omega
              subst hi'
              go_wp2_with fail
              go_ret2
              exact ⟨_, by rw [HX.out]; rfl, by unfold renL; rw [if_pos HX.out]; simpa using ho, he⟩
    · have h8' : ((s.size : Int) != 8) = true := by simp; omega
      have HE : Hid (renE t (bt s) s.size = 1) := by show _ = _; unfold renE; rw [if_neg (by simp [h]), if_pos h8]
      clear h8
      go_enter Try.func34, Try.ntmps34
      go_wp2_with (first | ((go_at_call 39; (with_reducible refine (rWrong_calls t _ _ hr).mono ?_); rintro e w1 ⟨rfl, h1⟩); rw [h]))
      go_ret2
      exact RenamePost.err HE.out (by decide) (by (repeat (first | assumption | exact Ext.refl _ | apply Ext.alloc | apply Ext.drew | apply Ext.drewN | refine Ext.trans ?_ (by assumption))))
  · have h' : (errW t != 0) = true := by simp [h]
    have HE : Hid (renE t (bt s) s.size = errW t) := if_pos h
    go_enter Try.func34, Try.ntmps34
    go_wp2_with ((go_at_call 39; (with_reducible refine (rWrong_calls t _ _ hr).mono ?_); rintro e w1 ⟨rfl, h1⟩))
    go_ret2
    exact RenamePost.err HE.out h (by (repeat (first | assumption | exact Ext.refl _ | apply Ext.alloc | apply Ext.drew | apply Ext.drewN | refine Ext.trans ?_ (by assumption))))
end Go.Proofs.Ytkjedeofjkdlaaa
