/- Walk of package tree: Join. Conditions: what slices read as. -/
import Derived.Test.YtkjedeofjkdlaaaTreeB
namespace Go.Proofs.Ytkjedeofjkdlaaa
open Go.RowKit Go.Eg

/-- What Join comes to. -/
def JoinPost (n : Nd) (ps : List (List Nd)) (w : World) (e : Ending) (w' : World) : Prop :=
  ∃ v', e = .returned (.tuple #[v', .int .i64 (joinE n ps)]) ∧ Own tyNd 25 w.heap.size No w' (joinL n ps) v' ∧ Ext w w'
theorem JoinPost.err {n : Nd} {ps : List (List Nd)} {w w' : World} {x : Int} (h : joinE n ps = x) (hx : x ≠ 0) (he : Ext w w') : JoinPost n ps w (.returned (.tuple #[.slice none 0 0, .int .i64 x])) w' :=
  ⟨_, by rw [h], by unfold joinL; rw [if_neg (by rw [h]; exact hx)]; exact Own.nil _ _ _ _ _, he⟩

set_option maxHeartbeats 1000000 in
set_option maxRecDepth 100000 in
theorem Join_calls (n : Nd) (ps : List (List Nd)) (v : Value) (w : World) (hr : Rd (Ty.slice tyNd) w ps v) :
    Calls Try.prog 20 #[.agg #[.int .i64 n.k, .int .u8 n.s], v] w (JoinPost n ps w) := by
  obtain ⟨A, c, rfl, hlc, hcm⟩ := hr.shape
  unfold maxLen at hcm
  by_cases hg : good n = true
  · have har := ar_le n.k
    by_cases hl : (ps.length : Int) = ar n.k
    · have hl' : ((ps.length : Int) != ar n.k) = false := by simp [hl]
      have hl2 : ps.length ≤ 2 := by omega
      have HB := Lib.hid (good_byte hg)
      have HE : Hid (joinE n ps = if firstErr ps ≠ 0 then firstErr ps else if 4000 ≤ ps.flatten.length then 6 else 0) := by
        show _ = _; unfold joinE; rw [if_neg (by simp [hg]), if_neg (by simp [hl])]
      clear hl har
      go_enter Try.func20, Try.ntmps20
      go_wp2_with (first | ((go_at_call 42; (with_reducible refine (good_calls n _).mono ?_); rintro e w1 ⟨rfl, h1⟩); have := (h1).cells; have := (h1).frozens; have : w.heap.size < w1.heap.size := Nat.lt_of_lt_of_le (by first | assumption | (simp; done) | (simp; omega)) (h1).le) | ((go_at_call 36; (with_reducible refine (parts_calls _ _).mono ?_); rintro e w2 ⟨rfl, h2⟩); have := (h2).cells; have := (h2).frozens; have : w.heap.size < w2.heap.size := Nat.lt_of_lt_of_le (by first | assumption | (simp; done) | (simp; omega)) (h2).le))
      have hx2 : Ext w w2 := by (repeat (first | assumption | exact Ext.refl _ | apply Ext.alloc | apply Ext.drew | apply Ext.drewN | refine Ext.trans ?_ (by assumption)))
      go_loopw [6, 21] (fun v6 v21 wr => ∃ i : Nat, v21 = .int .i64 i ∧ i ≤ ps.length ∧ Hid (firstErr (ps.drop i) = firstErr ps) ∧ Own tyNd 25 w2.heap.size No wr (ps.take i).flatten v6 ∧ (ps.take i).flatten.length ≤ 4000 * i ∧ Ext w2 wr) (fun _ v21 _ => ps.length - (intOf v21).toNat)
      case atStart => exact ⟨0, rfl, by omega, rfl, Own.nil _ _ _ _ _, by simp, Ext.refl _⟩
      case round =>
        obtain ⟨i, rfl, hi, HF, ho, hol, he⟩ := hrel
        have := (he).cells; have := (he).frozens; have : w.heap.size < wr.heap.size := Nat.lt_of_lt_of_le (by first | assumption | (simp; done) | (simp; omega)) (he).le
        have hbs := he.le
        generalize hout : (ps.take i).flatten = out at *
        have HOUT := Lib.hid hout
        clear hout
        have hsh := ho.shape
        obtain ⟨A6, c6, rfl, h61, h62⟩ := hsh
        by_cases hlt : i < ps.length
        · obtain ⟨x, hx⟩ : ∃ x, ps[i]? = some x := ⟨_, List.getElem?_eq_getElem hlt⟩
          obtain ⟨b, off, u, rfl, hb, hc0, hu⟩ := ((hr.ext hx2).ext he).slices hx
          have HFD := Lib.hid (firstErr_drop hx)
          have HFT : Hid ((ps.take (i + 1)).flatten = out ++ x) := by show _ = _; rw [flatten_take hx, HOUT.out]
          clear hr hx
          have hush := hu.shape
          obtain ⟨Au, cu, rfl, hu1, hu2⟩ := hush
          by_cases hw : errW x = 0
          · have hxl := (errW_ok hw).1
            have HF' : Hid (firstErr (ps.drop (i + 1)) = firstErr ps) := by
              have := HFD.out
              rw [if_neg (by simp [hw])] at this
              exact this.symm.trans HF.out
            go_wp2_with (first | ((go_at_call 35; (with_reducible refine (wrong_calls x _ _ hu).mono ?_); rintro e w3 ⟨rfl, h3⟩); rw [hw]; have := (h3).cells; have := (h3).frozens; have : w.heap.size < w3.heap.size := Nat.lt_of_lt_of_le (by first | assumption | (simp; done) | (simp; omega)) (h3).le) | ((with_reducible refine gate_bi .append #[.tmp 30, .tmp 31] ?_); refine wp_append (t := tyNd) 25 w2.heap.size 16 elNd No _ out rfl (ho.ext h3) _ x rfl Any (hu.ext h3) (fun _ _ h => h) (by omega) (by decide) (by have := h3.le; omega) ?_; intro v6 w6 ho6 hg6 _; have hx6 := Ext.grown (by (repeat (first | assumption | exact Ext.refl _ | apply Ext.alloc | apply Ext.drew | apply Ext.drewN | refine Ext.trans ?_ (by assumption))) : Ext w2 _) hg6 ho.lo))
            go_roundw
            case rel => exact ⟨i + 1, by go_num, by omega, HF', by rw [HFT.out]; exact ho6, by rw [HFT.out, List.length_append]; omega, hx6⟩
            case measure => simp [intOf]; omega
          · have hw' : (errW x != 0) = true := by simp [hw]
            have HX : Hid (joinE n ps = errW x) := by
              show _ = _
              have : firstErr ps = errW x := by rw [← HF.out, HFD.out, if_pos hw]
              rw [HE.out, this, if_pos hw]
            go_wp2_with (first | ((go_at_call 35; (with_reducible refine (wrong_calls x _ _ hu).mono ?_); rintro e w3 ⟨rfl, h3⟩)))
            go_ret2
            exact JoinPost.err HX.out hw (by (repeat (first | assumption | exact Ext.refl _ | apply Ext.alloc | apply Ext.drew | apply Ext.drewN | refine Ext.trans ?_ (by assumption))))
        · have hi' : i = ps.length := by omega
          subst hi'
          have HF0 : Hid (firstErr ps = 0) := by have := HF.out; rw [List.drop_length] at this; exact this.symm
          have HTK : Hid (out = ps.flatten) := by show _ = _; rw [← HOUT.out, List.take_length]
          by_cases hbig : 4000 ≤ out.length
          · have HX : Hid (joinE n ps = 6) := by show _ = _; rw [HE.out, HF0.out, if_neg (by simp), if_pos (by rw [← HTK.out]; exact hbig)]
            go_wp2_with fail
            go_ret2
            exact JoinPost.err HX.out (by decide) (by (repeat (first | assumption | exact Ext.refl _ | apply Ext.alloc | apply Ext.drew | apply Ext.drewN | refine Ext.trans ?_ (by assumption))))
          · have HX : Hid (joinE n ps = 0) := by show _ = _; rw [HE.out, HF0.out, if_neg (by simp), if_neg (by rw [← HTK.out]; exact hbig)]
            go_wp2_with (first | ((with_reducible refine gate_bi .append #[.tmp 37, .tmp 39] ?_); refine wp_append (t := tyNd) 25 w2.heap.size 16 elNd No _ out rfl (ho.ext ((Ext.refl _).alloc _)) _ [n] rfl Any (SlP.one _ _ (fun _ _ => ⟨rfl, HB.out⟩)) (fun _ _ h => h) (by simp; omega) (by decide) (by simp; omega) ?_; intro v6 w6 ho6 hg6 _; have hx6 := Ext.grown (by (repeat (first | assumption | exact Ext.refl _ | apply Ext.alloc | apply Ext.drew | apply Ext.drewN | refine Ext.trans ?_ (by assumption))) : Ext w _) hg6 (fun k hk => Nat.le_trans hx2.le (ho.lo k hk))))
            go_ret2
            exact ⟨v6, by rw [HX.out]; rfl, by unfold joinL; rw [if_pos HX.out, ← HTK.out]; exact ho6.rebase (fun k hk => Nat.le_trans hx2.le (ho6.lo k hk)), hx6⟩
    · have hl' : ((ps.length : Int) != ar n.k) = true := by simp [hl]
      have HE : Hid (joinE n ps = 1) := by show _ = _; unfold joinE; rw [if_neg (by simp [hg]), if_pos hl]
      go_enter Try.func20, Try.ntmps20
      go_wp2_with (first | ((go_at_call 42; (with_reducible refine (good_calls n _).mono ?_); rintro e w1 ⟨rfl, h1⟩); have := (h1).cells; have := (h1).frozens; have : w.heap.size < w1.heap.size := Nat.lt_of_lt_of_le (by first | assumption | (simp; done) | (simp; omega)) (h1).le) | ((go_at_call 36; (with_reducible refine (parts_calls _ _).mono ?_); rintro e w2 ⟨rfl, h2⟩); have := (h2).cells; have := (h2).frozens; have : w.heap.size < w2.heap.size := Nat.lt_of_lt_of_le (by first | assumption | (simp; done) | (simp; omega)) (h2).le))
      go_ret2
      exact JoinPost.err HE.out (by decide) (by (repeat (first | assumption | exact Ext.refl _ | apply Ext.alloc | apply Ext.drew | apply Ext.drewN | refine Ext.trans ?_ (by assumption))))
  · have hg' : good n = false := by simpa using hg
    have HE : Hid (joinE n ps = 30) := if_pos hg'
    go_enter Try.func20, Try.ntmps20
    go_wp2_with (first | ((go_at_call 42; (with_reducible refine (good_calls n _).mono ?_); rintro e w1 ⟨rfl, h1⟩); have := (h1).cells; have := (h1).frozens; have : w.heap.size < w1.heap.size := Nat.lt_of_lt_of_le (by first | assumption | (simp; done) | (simp; omega)) (h1).le))
    go_ret2
    exact JoinPost.err HE.out (by decide) (by (repeat (first | assumption | exact Ext.refl _ | apply Ext.alloc | apply Ext.drew | apply Ext.drewN | refine Ext.trans ?_ (by assumption))))
end Go.Proofs.Ytkjedeofjkdlaaa
