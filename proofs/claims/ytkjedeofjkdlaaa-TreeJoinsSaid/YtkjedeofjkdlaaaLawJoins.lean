/- The statement TreeJoins: its walk. Conditions: what slices read as. -/
import Derived.Test.YtkjedeofjkdlaaaKnowsC
import Derived.Test.YtkjedeofjkdlaaaJoinsM
import Derived.Test.YtkjedeofjkdlaaaRefD
import Derived.Test.YtkjedeofjkdlaaaRowLib
import Derived.Test.YtkjedeofjkdlaaaLawTurns
namespace Go.Proofs.Ytkjedeofjkdlaaa
open Go.RowKit Go.Eg

set_option maxHeartbeats 4000000 in
set_option maxRecDepth 100000 in
theorem TreeJoins_calls (n : Nd) (ps : List (List Nd)) (w : World) (hnb : 0 ≤ n.s ∧ n.s ≤ 255) (vp : Value) (hp : Rd (Ty.slice tyNd) w ps vp) (lp : ps.length * 24 ≤ 140737488351232) (lx : ∀ x ∈ ps, x.length * 16 ≤ 140737488351232) :
    Calls Try.prog 4 #[.agg #[.int .i64 n.k, .int .u8 n.s], vp] w fun r w' => r = .returned (.bool true) ∧ Ext w w' := by
  obtain ⟨A, c, rfl, hlc, hcm⟩ := hp.shape
  unfold maxLen at hcm
  have HLX := Lib.hid lx
  have hjl := joinL_len n ps
  clear lx
  go_enter Try.func4, Try.ntmps4
  go_wp2_with fail
  go_loopw [5, 6] (fun v5 v6 wr => ∃ (i : Nat) (vs : List (Nat × Nat × Nat)), v6 = .int .i64 i ∧ i ≤ ps.length ∧ LA w.heap.size wr.heap.size wr (ps.take i) 0 v5 vs ∧ Ext w wr ∧ wr.cell? ⟨w.heap.size, 0, none⟩ = some (.int .i64 n.k) ∧ wr.cell? ⟨w.heap.size, 1, none⟩ = some (.int .u8 n.s) ∧ w.heap.size < wr.heap.size ∧ (∀ k, v5.ownBlock = some k → w.heap.size < k)) (fun _ v6 _ => ps.length - (intOf v6).toNat)
  case atStart => exact ⟨0, [], rfl, by omega, LA.start _ _ _, by (repeat (first | assumption | exact Ext.refl _ | apply Ext.alloc | apply Ext.drew | apply Ext.drewN | refine Ext.trans ?_ (by assumption))), by simp, by simp, by simp, by simp [Value.ownBlock]⟩
  case round =>
    obtain ⟨i, vs, rfl, hi, hla, he, hk0, hk1, hbw, hvb⟩ := hrel
    have hvl := hla.len
    obtain ⟨A5, c5, rfl, h51, h52⟩ := hla.own.shape
    by_cases hlt : i < ps.length
    · obtain ⟨x, hx⟩ : ∃ x, ps[i]? = some x := ⟨_, List.getElem?_eq_getElem hlt⟩
      have hxl := HLX.out x (List.mem_of_getElem? hx)
      obtain ⟨b, off, u, rfl, hb, hc, hu⟩ := (hp.ext he).slices hx
      have HTK : Hid (ps.take (i + 1) = ps.take i ++ [x]) := by show _ = _; rw [List.take_add_one, hx]; rfl
      have hvl' : vs.length ≤ ps.length := by rw [hvl, List.length_take]; omega
      have HVL := Lib.hid hvl
      clear hx hp hvl
      go_wp2_with (first | ((go_at_call 11; (with_reducible refine (lentNodes_calls x _ _ hu hxl).mono ?_); rintro e w1 ⟨g, c1, rfl, hs1, h1⟩); have := (h1).cells; have := (h1).frozens; have : w.heap.size < w1.heap.size := Nat.lt_of_lt_of_le (by first | assumption | (simp; done) | (simp; omega)) (h1).le) | ((with_reducible refine gate_bi .append #[.tmp 20, .tmp 26] ?_); go_must (refine wp_append (t := tyCut) 22 w.heap.size 24 elCut No (.slice A5 vs.length c5) vs rfl ((hla.own.ext h1).ext ((Ext.refl _).alloc _)) _ [(g, x.length, c1)] rfl Any (SlP.one (t := tyCut) (g, x.length, c1) #[.slice (some ⟨g, 0, none⟩) x.length c1] (fun _ _ => rfl)) (fun _ _ h => h) (by simp; omega) (by decide) (by have := h1.le; simp; omega) ?_; intro v9 w9 ho9 hg9 hat9)))
      go_roundw
      case rel =>
        have e1 : Ext wr (w1.alloc (.cells #[.slice (some ⟨g, 0, none⟩) x.length c1] 22)) := h1.alloc _
        have hw1 := h1.le
        refine ⟨i + 1, vs ++ [(g, x.length, c1)], by go_num, by omega, ?_, ?_, ?_, ?_, ?_, ?_⟩
        · rw [HTK.out]
          exact hla.snoc (Nat.le_refl _) e1 ((hs1.rebase he.le).ext ((Ext.refl _).alloc _)) hs1.lo ho9 hg9 hat9
        · exact (he.trans e1).grown hg9 (fun k hk => Nat.le_of_lt (hvb k hk))
        · exact keepCell hg9 (by rw [e1.cell _ _ hbw]; exact hk0) (fun e => by have := hvb _ e; omega)
        · exact keepCell hg9 (by rw [e1.cell _ _ hbw]; exact hk1) (fun e => by have := hvb _ e; omega)
        · exact Nat.lt_of_lt_of_le (Nat.lt_of_lt_of_le hbw e1.le) hg9.size
        · intro k hk
          rcases hat9 with hat9 | hat9
          · rw [hat9] at hk; exact hvb k hk
          · rw [hat9] at hk
            have := Option.some.inj hk
            have := e1.le
            omega
      case measure => simp [intOf]; omega
    · have hi' : i = ps.length := by omega
      subst hi'
      rw [List.take_length] at hla
      have hrl := hla.rd
      have HVL : Hid (vs.length = ps.length) := hla.len
      rw [HVL.out] at hla hrl hvb ⊢
      clear hi hlt
      go_wp2_with fail
      go_at_call 20
      refine (Join_calls n ps _ _ hrl).mono ?_
      rintro e w2 ⟨v2, rfl, ho2, h2⟩
      obtain ⟨A2, c2, rfl, -, -⟩ := ho2.shape
      have := (h2).cells; have := (h2).frozens; have : w.heap.size < w2.heap.size := Nat.lt_of_lt_of_le (by first | assumption | (simp; done) | (simp; omega)) (h2).le
      go_wp2_with fail
      go_at_call 20
      refine (Join_calls n ps _ _ (hrl.ext h2)).mono ?_
      rintro e w3 ⟨v3, rfl, ho3, h3⟩
      obtain ⟨A3, c3, rfl, -, -⟩ := ho3.shape
      have := (h3).cells; have := (h3).frozens; have : w.heap.size < w3.heap.size := Nat.lt_of_lt_of_le (by first | assumption | (simp; done) | (simp; omega)) (h3).le
      go_wp2_with fail
      go_at_call 21
      refine (rJoin_calls n ps _ _ (hp.ext (he.trans (h2.trans h3)))).mono ?_
      rintro e w4 ⟨v4, rfl, ho4, h4⟩
      obtain ⟨A4, c4, rfl, -, -⟩ := ho4.shape
      generalize joinL n ps = jl at *
      generalize joinE n ps = je at *
      have t2 := ho2.ext (h3.trans h4)
      have t3 := ho3.ext h4
      have x4 : Ext wr w4 := h2.trans (h3.trans h4)
      have y4 : Ext w w4 := he.trans x4
      go_wp2_with (first | ((go_at_call 14; (with_reducible refine (num_calls _ _).mono ?_); rintro e w' ⟨rfl, hw⟩; obtain rfl := hw.symm)) | ((go_at_call 22; (with_reducible refine (sameNodes_calls jl jl _ _ _ t2.rd ho4.rd).mono ?_); rintro e w5 ⟨rfl, h5⟩); rw [decide_eq_true (rfl : jl = jl)]) | ((go_at_call 22; (with_reducible refine (sameNodes_calls jl jl _ _ _ (t3.rd.ext h5) (ho4.rd.ext h5)).mono ?_); rintro e w6 ⟨rfl, h6⟩); rw [decide_eq_true (rfl : jl = jl)]) | ((go_at_call 17; (with_reducible refine (knows_calls _).mono ?_); rintro e w7 ⟨rfl, h7⟩)))
      obtain ⟨w0, hw0⟩ : ∃ w0 : World, w0 = wr := ⟨_, rfl⟩
      subst hw0
      have x7 : Ext w4 w7 := h5.trans (h6.trans h7)
      have l1 := h2.le
      have l2 := h3.le
      have hw0 := he.le
      have hd : ∀ k, (Value.slice A2 jl.length c2).ownBlock = some k → (Value.slice A3 jl.length c3).ownBlock ≠ some k := fun k hk hk' => by
        have := (ho2.block k hk).2
        have := (ho3.block k hk').1
        omega
      have HD := Lib.hid hd
      have s2 := t2.ext x7
      have s3 := (t3.ext x7).rebase (base' := w0.heap.size) (fun k hk => by have := ho3.lo k hk; omega)
      have s4 := (ho4.ext x7).rebase (base' := w0.heap.size) (fun k hk => by have := ho4.lo k hk; omega)
      have sla := hla.ext (x4.trans x7)
      have shp := hp.sl.low.extB (y4.trans x7)
      have sE := y4.trans x7
      clear hd t2 t3 ho2 ho3 ho4 hla hp hrl h2 h3 h4 h5 h6 h7 x4 y4 x7 hk0 hk1 he
      go_loopw [13] (fun v13 wr => ∃ i : Nat, v13 = .int .i64 i ∧ i ≤ ps.length ∧ LA w.heap.size w0.heap.size wr ps i (.slice A5 ps.length c5) vs ∧ SlP (Ty.slice tyNd) (fun b => Any b ∧ b < w.heap.size) wr ps (.slice A ps.length c) ∧ Own tyNd 25 w0.heap.size No wr jl (.slice A2 jl.length c2) ∧ Own tyNd 25 w0.heap.size No wr jl (.slice A3 jl.length c3) ∧ Own tyNd 25 w0.heap.size No wr jl (.slice A4 jl.length c4) ∧ Ext w wr) (fun v13 _ => ps.length - (intOf v13).toNat)
      case atStart => exact ⟨0, rfl, by omega, sla, shp, s2, s3, s4, sE⟩
      case round =>
        clear sla shp s2 s3 s4 sE
        obtain ⟨i, rfl, hi, hla, hp, t2, t3, t4, hE⟩ := hrel
        by_cases hlt : i < ps.length
        · obtain ⟨x, hx⟩ : ∃ x, ps[i]? = some x := ⟨_, List.getElem?_eq_getElem hlt⟩
          have hxl := HLX.out x (List.mem_of_getElem? hx)
          obtain ⟨gv, g, c', rfl, hgv, hcell, hgg, hgt, hgb, hvi, hL⟩ := hla.cell hx
          replace hL := hL (Nat.le_refl _)
          obtain ⟨b, off, u, rfl, hb, hc, hu⟩ := hp.any.slices hx
          have HX := Lib.hid hx
          have HVI := Lib.hid hvi
          have hi0 : (0 : Int) ≤ (i : Int) := by omega
          have hi1 : (i : Int) < ps.length := by omega
          clear hx hvi
          go_wp2_with fail
          go_region_held3 (fun w' => w'.cell? ⟨gv, i, none⟩ = some (.slice (some ⟨g, 0, none⟩) x.length c') ∧ w'.cell? ⟨b, off + i, none⟩ = some u ∧ Ext wr w') (exact ⟨by first | assumption | simp [*], by first | assumption | simp [*], by (repeat (first | assumption | exact Ext.refl _ | apply Ext.alloc | apply Ext.drew | apply Ext.drewN | refine Ext.trans ?_ (by assumption)))⟩) (first | ((go_at_call 16; (with_reducible refine (stayNodes_calls x _ _ _ _ _ (hL.ext (by (repeat (first | assumption | exact Ext.refl _ | apply Ext.alloc | apply Ext.drew | apply Ext.drewN | refine Ext.trans ?_ (by assumption))))) (hu.ext (by (repeat (first | assumption | exact Ext.refl _ | apply Ext.alloc | apply Ext.drew | apply Ext.drewN | refine Ext.trans ?_ (by assumption))))) hxl).mono ?_); rintro e w8 ⟨rfl, h8⟩); replace h8 := Ext.undrew h8; have := (h8).cells; have := (h8).frozens; have : gv < w8.heap.size := Nat.lt_of_lt_of_le (by first | assumption | (simp; done) | (simp; omega)) (h8).le; have : b < w8.heap.size := Nat.lt_of_lt_of_le (by first | assumption | (simp; done) | (simp; omega)) (h8).le))
          go_wp2_with fail
          go_at_call 18
          refine (spoilNodes_calls x g c' _ w8 (hL.ext h8) hxl).mono ?_
          rintro e w9 ⟨rfl, hg9⟩
          have hla9 := (hla.ext h8).spoil HVI.out HX.out hg9
          have hp9 := (hp.extB h8).other hg9 (fun b hb _ e => by have := Option.some.inj e; have := hb.2; omega)
          have u2 : Own tyNd 25 w0.heap.size No w9 jl (.slice A2 jl.length c2) := Own.past (t2.ext h8) hg9 hgt
          have u3 : Own tyNd 25 w0.heap.size No w9 jl (.slice A3 jl.length c3) := Own.past (t3.ext h8) hg9 hgt
          have u4 : Own tyNd 25 w0.heap.size No w9 jl (.slice A4 jl.length c4) := Own.past (t4.ext h8) hg9 hgt
          have uE : Ext w w9 := (hE.trans h8).grown hg9 (fun k hk => by have := Option.some.inj hk; omega)
          clear hla hp t2 t3 t4 hE hL hu hcell hc
          go_wp2_with fail
          go_roundw
          case rel => exact ⟨i + 1, by go_num, by omega, hla9, hp9, u2, u3, u4, uE⟩
          case measure => simp [intOf]; omega
        · have hi' : i = ps.length := by omega
          subst hi'
          have hEl := hE.le
          clear hla hp
          go_wp2_with (first | ((go_at_call 22; (with_reducible refine (sameNodes_calls jl jl _ _ _ t2.rd t4.rd).mono ?_); rintro e w8 ⟨rfl, h8⟩); rw [decide_eq_true (rfl : jl = jl)]; have h8l := h8.le) | ((go_at_call 19; (with_reducible refine (apartNodes_calls [jl, jl] _ w.heap.size _ (Own2.two ((t2.ext h8).rebase (fun k hk => Nat.le_trans hw0 (t2.lo k hk))) ((t3.ext h8).rebase (fun k hk => Nat.le_trans hw0 (t3.lo k hk))) HD.out (by omega)) (by simp; omega) (by simp) (by simp; exact hjl)).mono ?_); rintro e w11 ⟨rfl, h11⟩)))
          go_ret
          exact ⟨rfl, Below.trans ((hE.trans h8).alloc _) h11⟩
end Go.Proofs.Ytkjedeofjkdlaaa
