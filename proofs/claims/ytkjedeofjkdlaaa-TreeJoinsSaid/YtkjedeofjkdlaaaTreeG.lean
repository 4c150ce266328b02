/- Walk of package tree: Reverse. Conditions: what a slice reads as. -/
import Derived.Test.YtkjedeofjkdlaaaTreeB
import Derived.Deep.RegionLaw
namespace Go.Proofs.Ytkjedeofjkdlaaa
open Go.RowKit Go.Eg

theorem elNds : Elem Try.prog 26 22 1 24 := Elem.mk (z := .slice none 0 0) Try.underlying26 (by kernel_rfl) rfl (by decide)
/-- What Reverse comes to. -/
def ReversePost (t : List Nd) (w : World) (e : Ending) (w' : World) : Prop :=
  ∃ v', e = .returned (.tuple #[v', .int .i64 (errW t)]) ∧ Own tyNd 25 w.heap.size No w' (revF t) v' ∧ Ext w w'

set_option maxHeartbeats 2000000 in
set_option maxRecDepth 100000 in
theorem Reverse_calls (t : List Nd) (v : Value) (w : World) (hr : Rd tyNd w t v) :
    Calls Try.prog 31 #[v] w (ReversePost t w) := by
  obtain ⟨A, c, rfl, hlc, hcm⟩ := hr.shape
  unfold maxLen at hcm
  by_cases h : errW t = 0
  · obtain ⟨hl, hok⟩ := errW_ok h
    have HO := Lib.hid hok
    have HR : Hid (revF t = (tr t).rev.flat) := if_pos h
    have HB := Lib.hid (fun i (hi : i < t.length) => rd_byte hr hi)
    clear hok
    go_enter Try.func31, Try.ntmps31
    go_wp2_with (first | ((go_at_call 35; (with_reducible refine (wrong_calls t _ _ hr).mono ?_); rintro e w1 ⟨rfl, h1⟩); rw [h]))
    have hx1 : Ext w w1 := h1
    have hbw : w.heap.size ≤ w1.heap.size := h1.le
    go_loopw [5, 20] (fun v5 v20 wr => ∃ (i : Nat) (S : List T), v20 = .int .i64 i ∧ i ≤ t.length ∧ St t i S ∧ Own2 tyNd 22 25 w.heap.size wr (sv (fun x => x.rev.flat) S) v5 ∧ Ext w wr) (fun _ v20 _ => t.length - (intOf v20).toNat)
    case atStart => exact ⟨0, [], rfl, by omega, St.start HO.out, Own2.nil _ _ _ _ _, hx1⟩
    case round =>
      clear hx1 h1 hbw
      obtain ⟨i, S, rfl, hi, hS, ho, he⟩ := hrel
      obtain ⟨wo, rfl⟩ : ∃ wo : World, wo = wr := ⟨_, rfl⟩
      have hew := he.le
      by_cases hlt : i < t.length
      · obtain ⟨b, off, rfl, hb, hc0, hc1⟩ := rd_node (hr.ext he) hlt
        have hby := Lib.hid (HB.out i hlt)
        obtain ⟨hg, hle, hp, hS'⟩ := hS.next hlt
        have har := good_ar hg
        have hsl := hS.len
        obtain ⟨X, R, hXe, hR, hKl, hX⟩ := rev_push hp
        rw [hXe] at hS'
        have hXb : X.rev.flat.length ≤ 4000 := by rw [T.rev_len]; have := hS'.sub X (by simp); omega
        have HX := Lib.hid hX
        have HR' := Lib.hid hR
        have hm : ar (nth t i).k = (((ar (nth t i).k).toNat : Nat) : Int) := by omega
        have hK : ∀ j, j < (ar (nth t i).k).toNat → ∃ x, (kidsR (nth t i) S)[j]? = some x ∧ (sv (fun x => x.rev.flat) S)[if (nth t i).k = 7 then S.length - 1 - j else S.length - (ar (nth t i).k).toNat + j]? = some x.rev.flat :=
          fun j hj => kidsR_at rfl (by omega) hj _
        have HK := Lib.hid hK
        clear hr hS hg hp hXe hX hR hK
        generalize nth t i = n at *
        have hm2 : (ar n.k).toNat ≤ 2 := by have := (ar_le n.k).2; omega
        have hmS : (ar n.k).toNat ≤ S.length := by omega
        have HM := Lib.hid hm
        generalize (ar n.k).toNat = m at *
        have hrl : (revs (kidsR n S)).length ≤ 4000 := by have := congrArg List.length HX.out; rw [List.length_append] at this; omega
        have hRl := Lib.hid (fun j => Nat.le_trans (revs_le (kidsR n S) j) hrl)
        clear hm hle har hrl
        have hsh := ho.shape
        rw [sv_len] at hsh
        obtain ⟨A5, c5, rfl, h51, h52⟩ := hsh
        go_wp2_with (first | ((go_at_call 36; (with_reducible refine (parts_calls _ _).mono ?_); rintro e w2 ⟨rfl, h2⟩); rw [HM.out]; have := (h2).cells; have := (h2).frozens; have : wo.heap.size < w2.heap.size := Nat.lt_of_lt_of_le (by first | assumption | (simp; done) | (simp; omega)) (h2).le))
        have hx2 : Ext wo w2 := by (repeat (first | assumption | exact Ext.refl _ | apply Ext.alloc | apply Ext.drew | apply Ext.drewN | refine Ext.trans ?_ (by assumption)))
        go_loopw [8, 30] (fun v8 v30 wr => ∃ j : Nat, v30 = .int .i64 j ∧ j ≤ m ∧ Own tyNd 25 w2.heap.size No wr (revs ((kidsR n S).take j)) v8 ∧ Ext w2 wr) (fun _ v30 _ => m - (intOf v30).toNat)
        case atStart => exact ⟨0, rfl, by omega, Own.nil _ _ _ _ _, Ext.refl _⟩
        case round =>
          obtain ⟨j, rfl, hj, ho8, he2⟩ := hrel
          have := (he2).cells; have := (he2).frozens; have : wo.heap.size < wr.heap.size := Nat.lt_of_lt_of_le (by first | assumption | (simp; done) | (simp; omega)) (he2).le
          have hrj := hRl.out j
          by_cases hjm : j < m
          · obtain ⟨x, hx1, hx2'⟩ := HK.out j hjm
            have HJ := Lib.hid (revs_succ hx1)
            generalize revs ((kidsR n S).take j) = acc at *
            have hsh8 := ho8.shape
            obtain ⟨A8, c8, rfl, h81, h82⟩ := hsh8
            have hxl := hRl.out (j + 1)
            rw [HJ.out, List.length_append] at hxl
            by_cases h7 : n.k = 7
            · have h7' : (n.k == 7) = true := by simp [h7]
              rw [if_pos h7] at hx2'
              obtain ⟨b5, o5, u, rfl, hb5, hc5, hu⟩ := ((ho.ext hx2).ext he2).rd.slices hx2'
              obtain ⟨Au, cu, rfl, hu1, hu2⟩ := hu.shape
              clear h7
              generalize x.rev.flat = xl at *
              go_wp2_with (first | ((with_reducible refine gate_bi .append #[.tmp 45, .tmp 49] ?_); refine wp_append (t := tyNd) 25 w2.heap.size 16 elNd No _ acc rfl ho8 _ xl rfl Any hu (fun _ _ h => h) (by omega) (by decide) he2.le ?_; intro v9 w9 ho9 hg9 _; have hx9 := Ext.grown he2 hg9 ho8.lo))
              go_roundw
              case rel => exact ⟨j + 1, by go_num, by omega, by rw [HJ.out]; exact ho9, hx9⟩
              case measure => simp [intOf]; omega
            · have h7' : (n.k == 7) = false := by simp [h7]
              rw [if_neg h7] at hx2'
              obtain ⟨b5, o5, u, rfl, hb5, hc5, hu⟩ := ((ho.ext hx2).ext he2).rd.slices hx2'
              obtain ⟨Au, cu, rfl, hu1, hu2⟩ := hu.shape
              clear h7
              generalize x.rev.flat = xl at *
              go_wp2_with (first | ((with_reducible refine gate_bi .append #[.tmp 45, .tmp 49] ?_); refine wp_append (t := tyNd) 25 w2.heap.size 16 elNd No _ acc rfl ho8 _ xl rfl Any hu (fun _ _ h => h) (by omega) (by decide) he2.le ?_; intro v9 w9 ho9 hg9 _; have hx9 := Ext.grown he2 hg9 ho8.lo))
              go_roundw
              case rel => exact ⟨j + 1, by go_num, by omega, by rw [HJ.out]; exact ho9, hx9⟩
              case measure => simp [intOf]; omega
          · have hjm' : j = m := by omega
            subst hjm'
            have HJ : Hid (X.rev.flat = revs ((kidsR n S).take j) ++ [n]) := by show _ = _; rw [HX.out, List.take_of_length_le (by have := hKl; omega)]
            generalize revs ((kidsR n S).take j) = acc at *
            obtain ⟨A8, c8, rfl, h81, h82⟩ := ho8.shape
            have hacc : acc.length + 1 ≤ 4000 := by have := congrArg List.length HJ.out; rw [List.length_append, List.length_singleton] at this; omega
            have htop : (sv (fun x => x.rev.flat) S).take (S.length - j) = sv (fun x => x.rev.flat) R := by
              rw [HR'.out]
              unfold sv
              rw [List.map_drop, List.reverse_drop, List.length_map]
            have hsv0 : S.length - j ≤ (sv (fun x => x.rev.flat) S).length := by rw [sv_len]; omega
            have hoR : Own2 tyNd 22 25 w.heap.size wo (sv (fun x => x.rev.flat) R) (.slice A5 (S.length - j) c5) := by have := ho.take rfl (S.length - j) hsv0; rwa [htop] at this
            have hRn : (sv (fun x : T => x.rev.flat) R).length ≤ 4000 := by rw [← htop, List.length_take]; omega
            have hsc : S.length - j ≤ c5 := by omega
            clear htop hKl hj hjm
            go_wp2_with fail
            have hsub : IntKind.i64.wrap ((S.length : Int) - (j : Int)) = ((S.length - j : Nat) : Int) := by rw [IntWalk.i64_in _ (by omega)]; omega
            have hsub0 : (0 : Int) ≤ ((S.length - j : Nat) : Int) := by omega
            have hsub1 : ((S.length - j : Nat) : Int) ≤ (c5 : Int) := by omega
            have hwz : wo.heap.size < w2.heap.size := by assumption
            go_region_law (first | ((with_reducible refine gate_st .append #[.tmp 57, .tmp 59] ?_); go_must (refine st_append (t := tyNd) 25 w2.heap.size 16 elNd No _ acc rfl (ho8.ext (by (repeat (first | assumption | exact Ext.refl _ | apply Ext.alloc | apply Ext.drew | apply Ext.drewN | refine Ext.trans ?_ (by assumption))))) _ [n] rfl Any (SlP.drew (SlP.one (t := tyNd) _ _ (fun _ _ => ⟨rfl, hby.out⟩))) (fun _ _ h => h) (by simp; omega) (by decide) (by have := he2.le; simp; omega) ?_); intro v9 w9 ho9 hg9 _; have hsh9 := ho9.shape; rw [List.length_append, List.length_singleton] at hsh9; obtain ⟨A9, c9, rfl, h91, h92⟩ := hsh9; have hx9 := Ext.grown (by (repeat (first | assumption | exact Ext.refl _ | apply Ext.alloc | apply Ext.drew | apply Ext.drewN | refine Ext.trans ?_ (by assumption))) : Ext w2 _) hg9 ho8.lo) | ((with_reducible refine gate_st .append #[.tmp 56, .tmp 61] ?_); go_must (refine st_append2 (t := tyNd) 22 25 w.heap.size 24 elNds _ (sv (fun x => x.rev.flat) R) rfl wo hoR (by (repeat (first | assumption | exact Ext.refl _ | apply Ext.alloc | apply Ext.drew | apply Ext.drewN | refine Ext.trans ?_ (by assumption)))) (acc ++ [n]) _ ((ho9.rebase (base' := w.heap.size) (fun k hk => by have := ho9.lo k hk; omega)).ext ((Ext.refl _).alloc _)) (fun k hk => by have := ho9.lo k hk; omega) _ _ rfl (by simp) (by omega) (by decide) (by have := hx9.le; simp; omega) ?_); intro v10 w10 ho10 hg10 _; have hx10 := Ext.grown (by (repeat (first | assumption | exact Ext.refl _ | apply Ext.alloc | apply Ext.drew | apply Ext.drewN | refine Ext.trans ?_ (by assumption))) : Ext w _) hg10 (fun k hk => (hoR.block k hk).1)))
            go_wp2_with fail
            go_roundw
            case rel => exact ⟨i + 1, X :: R, by go_num, by omega, hS', by rw [sv_push, HJ.out]; exact ho10, hx10⟩
            case measure => simp [intOf]; omega
      · have hi' : i = t.length := by omega
        subst hi'
        obtain ⟨y, rfl, hyw, hyf⟩ := hS.done
        have hy : (tr t).rev.flat = y.rev.flat := by rw [← hyf, tr_flat hyw]
        have HX : Hid (revF t = y.rev.flat) := by show _ = _; rw [HR.out, hy]
        have hsh := ho.shape
        rw [sv_len] at hsh
        obtain ⟨A5, c5, rfl, h51, h52⟩ := hsh
        obtain ⟨g, u, rfl, hg1, hg2, hg3, _, hu, _⟩ := ho.get (sv_top (fun x => x.rev.flat) y [])
        simp only [List.length_nil] at hg3
        clear hS hyf hr hy HB
        go_wp2_with fail
        go_ret2
        exact ⟨u, by rw [h]; rfl, by rw [HX.out]; exact hu, he⟩
  · have h' : (errW t != 0) = true := by simp [h]
    have HR : Hid (revF t = []) := if_neg h
    go_enter Try.func31, Try.ntmps31
    go_wp2_with ((go_at_call 35; (with_reducible refine (wrong_calls t _ _ hr).mono ?_); rintro e w1 ⟨rfl, h1⟩))
    go_ret2
    exact ⟨_, rfl, by rw [HR.out]; exact Own.nil _ _ _ _ _, by (repeat (first | assumption | exact Ext.refl _ | apply Ext.alloc | apply Ext.drew | apply Ext.drewN | refine Ext.trans ?_ (by assumption)))⟩
end Go.Proofs.Ytkjedeofjkdlaaa
