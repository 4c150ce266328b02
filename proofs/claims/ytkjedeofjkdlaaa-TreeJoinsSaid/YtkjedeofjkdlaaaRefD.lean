/- Walks of the reference of chapter 3: Parts, Join, turned, Reverse. Conditions: what slices read as. -/
import Derived.Test.YtkjedeofjkdlaaaRefB
import Derived.Test.YtkjedeofjkdlaaaTreeF
import Derived.Deep.RegionHeld3
import Derived.Deep.RegionLaw
namespace Go.Proofs.Ytkjedeofjkdlaaa
open Go.RowKit Go.Eg

/-- What the reference's Parts comes to. -/
def RPartsPost (x : T) (B : Nat → Prop) (w : World) (e : Ending) (w' : World) : Prop :=
  ∃ v', e = .returned (.tuple #[.agg #[.int .i64 x.root.k, .int .u8 x.root.s], v', .int .i64 0]) ∧ SlP (Ty.slice tyNd) (fun b => B b ∨ w.heap.size ≤ b) w' (x.kids.map T.flat) v' ∧ Ext w w'

set_option maxHeartbeats 400000 in
theorem rParts_err (t : List Nd) (v : Value) (w : World) (hr : Rd tyNd w t v) (h : errW t ≠ 0) :
    Calls Try.prog 13 #[v] w fun e w' => e = .returned (.tuple #[.agg #[.int .i64 0, .int .u8 0], .slice none 0 0, .int .i64 (errW t)]) ∧ Ext w w' := by
  have h' : (errW t != 0) = true := by simp [h]
  go_enter Try.func13, Try.ntmps13
  go_wp2_with ((go_at_call 39; (with_reducible refine (rWrong_calls t _ _ (hr.ext ((Ext.refl _).alloc _))).mono ?_); rintro e w1 ⟨rfl, h1⟩); have h1c := h1.cells; have h1f := h1.frozens)
  exact bodyPost_ret (v := .tuple #[.agg #[.int .i64 0, .int .u8 0], .slice none 0 0, .int .i64 (errW t)]) (by simp [results, Try.results13, go_sem, h1c]) rfl ⟨rfl, (((Ext.refl _).alloc _).trans h1).set (Nat.le_refl _) _ |>.set (Nat.le_refl _) _⟩

set_option maxHeartbeats 1000000 in
set_option maxRecDepth 100000 in
theorem rParts_ok (x : T) (hx : x.wf) (t : List Nd) (ht : t = x.flat) (hlen : t.length ≤ 4000) (v : Value) (B : Nat → Prop) (w : World) (hr : SlP tyNd B w t v) :
    Calls Try.prog 13 #[v] w (RPartsPost x B w) := by
  have h0 : errW t = 0 := by rw [ht]; exact errW_flat hx (by rw [← ht]; exact hlen)
  obtain ⟨A, c, rfl, hlc, hcm⟩ := hr.any.shape
  unfold maxLen at hcm
  have hpos : 0 < t.length := by rw [ht]; exact T.flat_pos _
  have hroot : nth t (t.length - 1) = x.root := by rw [ht, T.nth_root]
  obtain ⟨bb, off, rfl, hbl, hc0, hc1⟩ := rd_node hr.any (i := t.length - 1) (by omega)
  rw [hroot] at hc0 hc1
  have HT := Lib.hid ht
  clear hroot ht
  have hl0 : (0 : Int) ≤ (t.length : Int) - 1 := by omega
  have hl1 : (t.length : Int) - 1 < t.length := by omega
  have hl2 : ((t.length : Int) - 1).toNat = t.length - 1 := by omega
  go_enter Try.func13, Try.ntmps13
  go_wp2_with ((go_at_call 39; (with_reducible refine (rWrong_calls t _ _ (hr.any.ext ((Ext.refl _).alloc _))).mono ?_); rintro e w1 ⟨rfl, h1⟩); rw [h0]; have := (h1).cells; have := (h1).frozens; have : w.heap.size < w1.heap.size := Nat.lt_of_lt_of_le (by first | assumption | (simp; done) | (simp; omega)) (h1).le; have : bb < w1.heap.size := Nat.lt_of_lt_of_le (by first | assumption | (simp; done) | (simp; omega)) (h1).le)
  have hw : IntKind.i64.wrap ((t.length : Int) - 1) = (t.length : Int) - 1 := IntWalk.i64_in _ (by omega)
  have hr1 := hr.low.extB (((Ext.refl w).alloc _).trans h1)
  have hwz : w.heap.size < w1.heap.size := by assumption
  go_region_with (first | ((go_at_call 40; (with_reducible refine (rCut_calls x hx t HT.out (by omega) _ (fun b => B b ∧ b < w.heap.size) _ (hr1.extB (by (repeat (first | assumption | exact Ext.refl _ | apply Ext.alloc | apply Ext.drew | apply Ext.drewN | refine Ext.trans ?_ (by assumption)))))).mono ?_); rintro e w2 ⟨v2, rfl, hs2, h2⟩); obtain ⟨A2, c2, rfl, h21, h22⟩ := hs2.any.shape; replace h2 := Ext.undrew h2; have := (h2).cells; have := (h2).frozens; have : w.heap.size < w2.heap.size := Nat.lt_of_lt_of_le (by first | assumption | (simp; done) | (simp; omega)) (h2).le; have : bb < w2.heap.size := Nat.lt_of_lt_of_le (by first | assumption | (simp; done) | (simp; omega)) (h2).le))
  all_goals
    go_wp2_with fail
    refine bodyPost_ret (v := .tuple #[.agg #[.int .i64 x.root.k, .int .u8 x.root.s], .slice A2 x.kids.length c2, .int .i64 0]) (by simp [results, Try.results13, go_sem, *]) rfl ⟨_, rfl, ?_, ?_⟩
    · have hs3 : SlP (Ty.slice tyNd) (fun b => (B b ∧ b < w.heap.size) ∨ w1.heap.size ≤ b) w2 (x.kids.map T.flat) (.slice A2 x.kids.length c2) := by simpa using hs2
      have hne : ∀ b, ((B b ∧ b < w.heap.size) ∨ w1.heap.size ≤ b) → some w.heap.size ≠ some b := fun b hb e => by have := Option.some.inj e; omega
      exact ((hs3.other (grownBy_set _ ⟨w.heap.size, 0, none⟩ _) (fun b hb _ => hne b hb)).other (grownBy_set _ ⟨w.heap.size, 1, none⟩ _) (fun b hb _ => hne b hb)).mono (fun b hb => by rcases hb with hb | hb; exact .inl hb.1; exact .inr (by omega))
    · refine Ext.set (Ext.set (by (repeat (first | assumption | exact Ext.refl _ | apply Ext.alloc | apply Ext.drew | apply Ext.drewN | refine Ext.trans ?_ (by assumption))) : Ext w w2) ?_ _) ?_ _ <;> exact Nat.le_refl _

set_option maxHeartbeats 1000000 in
set_option maxRecDepth 100000 in
theorem rJoin_calls (n : Nd) (ps : List (List Nd)) (v : Value) (w : World) (hr : Rd (Ty.slice tyNd) w ps v) :
    Calls Try.prog 21 #[.agg #[.int .i64 n.k, .int .u8 n.s], v] w (JoinPost n ps w) := by
  obtain ⟨A, c, rfl, hlc, hcm⟩ := hr.shape
  unfold maxLen at hcm
  by_cases hg : good n = true
  · have har := ar_le n.k
    have hga := good_ar hg
    by_cases hl : (ps.length : Int) = ar n.k
    · have hl' : ((ps.length : Int) != ar n.k) = false := by simp [hl]
      have hl2 : ps.length ≤ 2 := by omega
      have HB := Lib.hid (good_byte hg)
      have HE : Hid (joinE n ps = if firstErr ps ≠ 0 then firstErr ps else if 4000 ≤ ps.flatten.length then 6 else 0) := by
        show _ = _; unfold joinE; rw [if_neg (by simp [hg]), if_neg (by simp [hl])]
      clear hl har
      go_enter Try.func21, Try.ntmps21
      go_wp2_with (first | ((go_at_call 43; (with_reducible refine (rGood_calls n _).mono ?_); rintro e w1 ⟨rfl, h1⟩); have := (h1).cells; have := (h1).frozens; have : w.heap.size < w1.heap.size := Nat.lt_of_lt_of_le (by first | assumption | (simp; done) | (simp; omega)) (h1).le) | (go_at_call 44; (with_reducible refine (rArity_calls _ hga _).mono ?_); rintro e w' ⟨rfl, hw⟩; obtain rfl := hw.symm))
      have hx2 : Ext w w1 := by (repeat (first | assumption | exact Ext.refl _ | apply Ext.alloc | apply Ext.drew | apply Ext.drewN | refine Ext.trans ?_ (by assumption)))
      go_loopw [6, 7] (fun v6 v7 wr => ∃ i : Nat, v7 = .int .i64 i ∧ i ≤ ps.length ∧ Hid (firstErr (ps.drop i) = firstErr ps) ∧ v6 = .int .i64 (((ps.take i).flatten.length + 1 : Nat) : Int) ∧ (ps.take i).flatten.length ≤ 4000 * i ∧ Ext w1 wr) (fun _ v7 _ => ps.length - (intOf v7).toNat)
      case atStart => exact ⟨0, rfl, by omega, rfl, by simp, by simp, Ext.refl _⟩
      case round =>
        obtain ⟨i, rfl, hi, HF, rfl, hol, he⟩ := hrel
        have := (he).cells; have := (he).frozens; have : w.heap.size < wr.heap.size := Nat.lt_of_lt_of_le (by first | assumption | (simp; done) | (simp; omega)) (he).le
        generalize hout : (ps.take i).flatten = out at *
        have HOUT := Lib.hid hout
        clear hout
        by_cases hlt : i < ps.length
        · obtain ⟨x, hx⟩ : ∃ x, ps[i]? = some x := ⟨_, List.getElem?_eq_getElem hlt⟩
          obtain ⟨b, off, u, rfl, hb, hc0, hu⟩ := ((hr.ext hx2).ext he).slices hx
          have HFD := Lib.hid (firstErr_drop hx)
          have HFT : Hid ((ps.take (i + 1)).flatten = out ++ x) := by show _ = _; rw [flatten_take hx, HOUT.out]
          clear hr hx
          obtain ⟨Au, cu, rfl, hu1, hu2⟩ := hu.shape
          by_cases hw : errW x = 0
          · have hxl := (errW_ok hw).1
            have HF' : Hid (firstErr (ps.drop (i + 1)) = firstErr ps) := by
              have := HFD.out
              rw [if_neg (by simp [hw])] at this
              exact this.symm.trans HF.out
            go_wp2_with (first | ((go_at_call 39; (with_reducible refine (rWrong_calls x _ _ hu).mono ?_); rintro e w3 ⟨rfl, h3⟩); rw [hw]; have := (h3).cells; have := (h3).frozens; have : w.heap.size < w3.heap.size := Nat.lt_of_lt_of_le (by first | assumption | (simp; done) | (simp; omega)) (h3).le; have : b < w3.heap.size := Nat.lt_of_lt_of_le (by first | assumption | (simp; done) | (simp; omega)) (h3).le))
            go_roundw
            case rel => exact ⟨i + 1, by go_num, by omega, HF', val_int (by rw [HFT.out, List.length_append]; omega), by rw [HFT.out, List.length_append]; omega, by (repeat (first | assumption | exact Ext.refl _ | apply Ext.alloc | apply Ext.drew | apply Ext.drewN | refine Ext.trans ?_ (by assumption)))⟩
            case measure => simp [intOf]; omega
          · have hw' : (errW x != 0) = true := by simp [hw]
            have HX : Hid (joinE n ps = errW x) := by
              show _ = _
              have : firstErr ps = errW x := by rw [← HF.out, HFD.out, if_pos hw]
              rw [HE.out, this, if_pos hw]
            go_wp2_with (first | ((go_at_call 39; (with_reducible refine (rWrong_calls x _ _ hu).mono ?_); rintro e w3 ⟨rfl, h3⟩)))
            go_ret2
            exact JoinPost.err HX.out hw (by (repeat (first | assumption | exact Ext.refl _ | apply Ext.alloc | apply Ext.drew | apply Ext.drewN | refine Ext.trans ?_ (by assumption))))
        · have hi' : i = ps.length := by omega
          subst hi'
          have HF0 : Hid (firstErr ps = 0) := by have := HF.out; rw [List.drop_length] at this; exact this.symm
          have HTK : Hid (out = ps.flatten) := by show _ = _; rw [← HOUT.out, List.take_length]
          by_cases hbig : 4000 ≤ out.length
          · have HX : Hid (joinE n ps = 6) := by show _ = _; rw [HE.out, HF0.out, if_neg (by simp), if_pos (by rw [← HTK.out]; exact hbig)]
            go_wp2_with fail
            go_ret2
            exact JoinPost.err HX.out (by decide) (by (repeat (first | assumption | exact Ext.refl _ | apply Ext.alloc | apply Ext.drew | apply Ext.drewN | refine Ext.trans ?_ (by assumption))))
          · have HX : Hid (joinE n ps = 0) := by show _ = _; rw [HE.out, HF0.out, if_neg (by simp), if_neg (by rw [← HTK.out]; exact hbig)]
            go_wp2_with (first | ((go_at_call 45; (with_reducible refine (rMade_calls n HB.out ps (by rw [← HTK.out]; omega) _ _ ((hr.ext hx2).ext he) (by omega)).mono ?_); rintro e w3 ⟨v3, rfl, ho3, h3⟩)))
            go_ret2
            exact ⟨v3, by rw [HX.out]; rfl, by unfold joinL; rw [if_pos HX.out]; exact ho3.rebase (fun k hk => Nat.le_trans (hx2.trans he).le (ho3.lo k hk)), by (repeat (first | assumption | exact Ext.refl _ | apply Ext.alloc | apply Ext.drew | apply Ext.drewN | refine Ext.trans ?_ (by assumption)))⟩
    · have hl' : ((ps.length : Int) != ar n.k) = true := by simp [hl]
      have HE : Hid (joinE n ps = 1) := by show _ = _; unfold joinE; rw [if_neg (by simp [hg]), if_pos hl]
      go_enter Try.func21, Try.ntmps21
      go_wp2_with (first | ((go_at_call 43; (with_reducible refine (rGood_calls n _).mono ?_); rintro e w1 ⟨rfl, h1⟩); have := (h1).cells; have := (h1).frozens; have : w.heap.size < w1.heap.size := Nat.lt_of_lt_of_le (by first | assumption | (simp; done) | (simp; omega)) (h1).le) | (go_at_call 44; (with_reducible refine (rArity_calls _ hga _).mono ?_); rintro e w' ⟨rfl, hw⟩; obtain rfl := hw.symm))
      go_ret2
      exact JoinPost.err HE.out (by decide) (by (repeat (first | assumption | exact Ext.refl _ | apply Ext.alloc | apply Ext.drew | apply Ext.drewN | refine Ext.trans ?_ (by assumption))))
  · have hg' : good n = false := by simpa using hg
    have HE : Hid (joinE n ps = 30) := if_pos hg'
    go_enter Try.func21, Try.ntmps21
    go_wp2_with (first | ((go_at_call 43; (with_reducible refine (rGood_calls n _).mono ?_); rintro e w1 ⟨rfl, h1⟩); have := (h1).cells; have := (h1).frozens; have : w.heap.size < w1.heap.size := Nat.lt_of_lt_of_le (by first | assumption | (simp; done) | (simp; omega)) (h1).le))
    go_ret2
    exact JoinPost.err HE.out (by decide) (by (repeat (first | assumption | exact Ext.refl _ | apply Ext.alloc | apply Ext.drew | apply Ext.drewN | refine Ext.trans ?_ (by assumption))))
end Go.Proofs.Ytkjedeofjkdlaaa
