/- Walks of package tree: deep, where all nodes count and where stars alone do. Conditions: what a slice reads as; a tree of at most 4000 nodes. -/
import Derived.Test.YtaijjnndnoicpaaTreeB
namespace Go.Proofs.Ytaijjnndnoicpaa
open Go.RowKit Go.Eg

theorem elInt : Elem Try.prog 79 3 1 8 := Elem.mk (z := .int .i64 0) Try.underlying79 (by kernel_rfl) rfl (by decide)

set_option maxHeartbeats 400000 in
theorem every_calls (k : Int) (w : World) : Calls Try.prog 39 #[.int .i64 k] w fun e w' => e = .returned (.bool (everyK k)) ∧ Ext w w' := by
  go_enter Try.func39, Try.ntmps39
  go_wp2
  go_ret
  exact ⟨rfl, Ext.refl _⟩
set_option maxHeartbeats 1000000 in
theorem deep_every (x : T) (hx : x.wf) (t : List Nd) (ht : t = x.flat) (hlen : t.length ≤ 4000) (v : Value) (w : World) (hr : Rd tyNd w t v) :
    Calls Try.prog 38 #[v, .func (.func 39) #[] #[]] w fun e w' => e = .returned (.int .i64 (x.dep everyK)) ∧ Ext w w' := by
  obtain ⟨A, c, rfl, hlc, hcm⟩ := hr.shape
  unfold maxLen at hcm
  have HO : Hid (ok 0 t = true) := by show _ = _; rw [ht]; exact ok_tree hx
  have HT := Lib.hid ht
  clear ht
  go_enter Try.func38, Try.ntmps38
  go_wp2_with fail
  go_loopw [5, 11] (fun v5 v11 wr => ∃ (i : Nat) (S : List T), v11 = .int .i64 i ∧ i ≤ t.length ∧ St t i S ∧ Own (Ty.int .i64) 3 w.heap.size No wr (sv (T.dep everyK) S) v5 ∧ Ext w wr) (fun _ v11 _ => t.length - (intOf v11).toNat)
  case atStart => exact ⟨0, [], rfl, by omega, St.start HO.out, Own.nil _ _ _ _ _, Ext.refl _⟩
  case round =>
    obtain ⟨i, S, rfl, hi, hS, ho, he⟩ := hrel
    obtain ⟨wo, rfl⟩ : ∃ wo : World, wo = wr := ⟨_, rfl⟩
    by_cases hlt : i < t.length
    · obtain ⟨b, off, rfl, hb, hc0, hc1⟩ := rd_node (hr.ext he) hlt
      obtain ⟨hg, hle, hp, hS'⟩ := hS.next hlt
      have har := good_ar hg
      have har2 := (ar_le (nth t i).k).2
      have hsl := hS.len
      obtain ⟨X, R, hXe, hR, hX⟩ := dep_push everyK hp
      have hbd : ∀ x ∈ S, T.dep everyK x ≤ 4000 := fun x hx => by
        have h1 := (T.dep_bd everyK x).2
        have h2 : x.flat.length ≤ (fl S).length := by
          obtain ⟨s1, s2, rfl⟩ := List.append_of_mem hx
          simp [fl]; omega
        rw [hS.flat, List.length_take] at h2
        omega
      have hmx := maxd_bd (T.dep everyK) 4000 (by omega) (ar (nth t i).k).toNat S hbd
      rw [hXe] at hS'
      have HX := Lib.hid hX
      have HR := Lib.hid hR
      clear hr hS hg hp hXe hX hR
      generalize nth t i = n at *
      go_wp2_with (first | ((go_at_call 49; (with_reducible refine (parts_calls _ _).mono ?_); rintro e w1 ⟨rfl, h1⟩); have := (h1).cells; have := (h1).frozens; have : wo.heap.size < w1.heap.size := Nat.lt_of_lt_of_le (by first | assumption | (simp; done) | (simp; omega)) (h1).le))
      have hm : ar n.k = (((ar n.k).toNat : Nat) : Int) := by omega
      generalize (ar n.k).toNat = m at *
      rw [hm]
      have hm2 : m ≤ 2 := by omega
      have hmS : m ≤ S.length := by omega
      clear hm hle har har2
      go_loopw [5, 8, 18] (fun v5 v8 v18 wr' => ∃ j : Nat, v18 = .int .i64 j ∧ j ≤ m ∧ v8 = .int .i64 (maxd (T.dep everyK) j S) ∧ Own (Ty.int .i64) 3 w.heap.size No wr' (sv (T.dep everyK) (S.drop j)) v5 ∧ Ext w1 wr') (fun _ _ v18 _ => m - (intOf v18).toNat)
      case atStart => exact ⟨0, rfl, by omega, val_int (maxd_zero _ _).symm, ho.ext (by (repeat (first | assumption | exact Ext.refl _ | apply Ext.alloc | apply Ext.drew | apply Ext.drewN | refine Ext.trans ?_ (by assumption)))), Ext.refl _⟩
      case round =>
        obtain ⟨j, rfl, hj, rfl, ho', he'⟩ := hrel
        by_cases hjm : j < m
        · obtain ⟨y, S2, hd⟩ : ∃ y S2, S.drop j = y :: S2 := ⟨_, _, List.drop_eq_getElem_cons (by omega)⟩
          have hdl := congrArg List.length hd
          rw [List.length_drop, List.length_cons] at hdl
          rw [hd] at ho'
          have hy : S[j]? = some y := by have := congrArg (·[0]?) hd; simpa using this
          have hmx' := maxd_bd (T.dep everyK) 4000 (by omega) j S hbd
          have hyb := hbd y (List.mem_of_getElem? hy)
          have hyb0 := (T.dep_bd everyK y).1
          have HM := Lib.hid (maxd_succ (T.dep everyK) y j S (fun z _ => (T.dep_bd everyK z).1) hy)
          have hsh := ho'.shape
          rw [sv_len, List.length_cons] at hsh
          obtain ⟨A5, c5, rfl, h51, h52⟩ := hsh
          obtain ⟨b5, o5, rfl, hb5, hc5⟩ := (ho'.rd).int (sv_top (T.dep everyK) y S2)
          have HD : Hid (S.drop (j + 1) = S2) := by show _ = _; rw [← List.tail_drop, hd]; rfl
          clear hy hd hbd
          have hl2 : S2.length ≤ 4000 := by omega
          clear hdl
          generalize hmv : maxd (T.dep everyK) j S = mv at *
          generalize hyv : T.dep everyK y = yv at *
          have HMV := Lib.hid hmv
          have HYV := Lib.hid hyv
          clear hmv hyv
          go_wp2_with fail
          go_roundw
          case rel =>
            refine ⟨j + 1, by go_num, by omega, val_int ?_, ?_, by (repeat (first | assumption | exact Ext.refl _ | apply Ext.alloc | apply Ext.drew | apply Ext.drewN | refine Ext.trans ?_ (by assumption)))⟩
            · rw [HM.out]; split <;> omega
            · rw [HD.out]
              have := ho'.take rfl S2.length (by rw [sv_len]; simp)
              rwa [sv_pop] at this
          case measure => simp [intOf]; omega
        · have hjm' : j = m := by omega
          subst hjm'
          clear hbd hj hjm ho
          have := (he').cells; have := (he').frozens; have : wo.heap.size < wr.heap.size := Nat.lt_of_lt_of_le (by first | assumption | (simp; done) | (simp; omega)) (he').le
          have hmx1 := hmx.1
          have hmx2 := hmx.2
          have hdl : (sv (T.dep everyK) (S.drop j)).length ≤ 4000 := by rw [sv_len, List.length_drop]; omega
          generalize maxd (T.dep everyK) j S = mv at *
          have hsh := ho'.shape
          obtain ⟨A5, c5, rfl, h51, h52⟩ := hsh
          have hbase : w.heap.size ≤ wr.heap.size := (by (repeat (first | assumption | exact Ext.refl _ | apply Ext.alloc | apply Ext.drew | apply Ext.drewN | refine Ext.trans ?_ (by assumption))) : Ext w wr).le
          by_cases hk : everyK n.k = true
          · have HX' : Hid (T.dep everyK X = mv + 1) := by have := HX.out; rwa [if_pos hk] at this
            clear HX hmx
            go_wp2_with (first | ((go_at_call 39; (with_reducible refine (every_calls _ _).mono ?_); rintro e w3 ⟨rfl, h3⟩); have := (h3).cells; have := (h3).frozens; have : wo.heap.size < w3.heap.size := Nat.lt_of_lt_of_le (by first | assumption | (simp; done) | (simp; omega)) (h3).le) | ((with_reducible refine gate_bi .append #[.tmp 40, .tmp 42] ?_); refine wp_append (t := Ty.int .i64) 3 w.heap.size 8 elInt No _ (sv (T.dep everyK) (S.drop j)) rfl ((ho'.ext h3).ext ((Ext.refl _).alloc _)) _ [mv + 1] rfl Any (SlP.one _ _ (fun _ _ => rfl)) (fun _ _ h => h) (by simp; omega) (by decide) (by have := h3.le; simp; omega) ?_; intro v6 w6 ho6 hg6 _; have hx6 := Ext.grown (by (repeat (first | assumption | exact Ext.refl _ | apply Ext.alloc | apply Ext.drew | apply Ext.drewN | refine Ext.trans ?_ (by assumption))) : Ext w _) hg6 ho'.lo))
            go_roundw
            case rel => exact ⟨i + 1, X :: R, by go_num, by omega, hS', by rw [sv_push, HX'.out, HR.out]; exact ho6, hx6⟩
            case measure => simp [intOf]; omega
          · have hk' : everyK n.k = false := by simpa using hk
            have HX' : Hid (T.dep everyK X = mv) := by have := HX.out; rw [if_neg hk] at this; show _ = _; omega
            clear HX hmx hk
            go_wp2_with (first | ((go_at_call 39; (with_reducible refine (every_calls _ _).mono ?_); rintro e w3 ⟨rfl, h3⟩); have := (h3).cells; have := (h3).frozens; have : wo.heap.size < w3.heap.size := Nat.lt_of_lt_of_le (by first | assumption | (simp; done) | (simp; omega)) (h3).le) | ((with_reducible refine gate_bi .append #[.tmp 40, .tmp 42] ?_); refine wp_append (t := Ty.int .i64) 3 w.heap.size 8 elInt No _ (sv (T.dep everyK) (S.drop j)) rfl ((ho'.ext h3).ext ((Ext.refl _).alloc _)) _ [mv] rfl Any (SlP.one _ _ (fun _ _ => rfl)) (fun _ _ h => h) (by simp; omega) (by decide) (by have := h3.le; simp; omega) ?_; intro v6 w6 ho6 hg6 _; have hx6 := Ext.grown (by (repeat (first | assumption | exact Ext.refl _ | apply Ext.alloc | apply Ext.drew | apply Ext.drewN | refine Ext.trans ?_ (by assumption))) : Ext w _) hg6 ho'.lo))
            go_roundw
            case rel => exact ⟨i + 1, X :: R, by go_num, by omega, hS', by rw [sv_push, HX'.out, HR.out]; exact ho6, hx6⟩
            case measure => simp [intOf]; omega
    · have hi' : i = t.length := by omega
      subst hi'
      obtain ⟨y, rfl, hyw, hyf⟩ := hS.done
      have hxy : y = x := flat_inj hyw hx (by rw [hyf, HT.out])
      subst hxy
      have hsh := ho.shape
      obtain ⟨A5, c5, rfl, h51, h52⟩ := hsh
      obtain ⟨b5, o5, rfl, hb5, hc5⟩ := (ho.rd).int (sv_top (T.dep everyK) y [])
      have HL := Lib.hid (sv_len (T.dep everyK) [y])
      have hl0 : 0 < (sv (T.dep everyK) [y]).length := by rw [sv_len]; exact Nat.one_pos
      clear hS hyf hr HT
      simp only [List.length_nil, Nat.add_zero] at hc5
      go_wp2_with fail
      go_ret
      exact ⟨rfl, he⟩

end Go.Proofs.Ytaijjnndnoicpaa
