/- Walks of the reference of chapter 3: Cut, depth. Conditions: what slices read as. -/
import Derived.Test.YtaijjnndnoicpaaRefA
import Derived.Test.YtaijjnndnoicpaaTreeD
import Derived.Deep.RegionWith
namespace Go.Proofs.Ytaijjnndnoicpaa
open Go.RowKit Go.Eg

/-- What Cut comes to: pieces of what it was given. -/
def CutPost (x : T) (B : Nat → Prop) (w : World) (e : Ending) (w' : World) : Prop :=
  ∃ v', e = .returned v' ∧ SlP (Ty.slice tyNd) (fun b => B b ∨ w.heap.size ≤ b) w' (x.kids.map T.flat) v' ∧ Ext w w'

theorem maxd_top (f : T → Int) (j : Nat) (S : List T) {x : T} (hx : S[j]? = some x) : (sv f S)[S.length - 1 - j]? = some (f x) := sv_at f S hx

set_option maxHeartbeats 2000000 in
set_option maxRecDepth 100000 in
theorem rdepth_all (x : T) (hx : x.wf) (t : List Nd) (ht : t = x.flat) (hlen : t.length ≤ 4000) (v : Value) (w : World) (hr : Rd tyNd w t v) :
    Calls Try.prog 43 #[v, .bool false] w fun e w' => e = .returned (.int .i64 (x.dep everyK)) ∧ Ext w w' := by
  obtain ⟨A, c, rfl, hlc, hcm⟩ := hr.shape
  unfold maxLen at hcm
  have HO : Hid (ok 0 t = true) := by show _ = _; rw [ht]; exact ok_tree hx
  have HT := Lib.hid ht
  clear ht
  go_enter Try.func43, Try.ntmps43
  go_wp2_with fail
  go_loopw [5, 6] (fun v5 v6 wr => ∃ (i : Nat) (S : List T), v6 = .int .i64 i ∧ i ≤ t.length ∧ St t i S ∧ Own (Ty.int .i64) 3 w.heap.size No wr (sv (T.dep everyK) S) v5 ∧ Ext w wr) (fun _ v6 _ => t.length - (intOf v6).toNat)
  case atStart => exact ⟨0, [], rfl, by omega, St.start HO.out, Own.nil _ _ _ _ _, Ext.refl _⟩
  case round =>
    obtain ⟨i, S, rfl, hi, hS, ho, he⟩ := hrel
    obtain ⟨wo, rfl⟩ : ∃ wo : World, wo = wr := ⟨_, rfl⟩
    by_cases hlt : i < t.length
    · obtain ⟨b, off, rfl, hb, hc0, hc1⟩ := rd_node (hr.ext he) hlt
      obtain ⟨hg, hle, hp, hS'⟩ := hS.next hlt
      have hga := good_ar hg
      have har2 := (ar_le (nth t i).k).2
      have hsl := hS.len
      obtain ⟨X, R, hXe, hR, hX⟩ := dep_push everyK hp
      have hbd : ∀ x ∈ S, T.dep everyK x ≤ 4000 := fun x hx => by
        have h1 := (T.dep_bd everyK x).2
        have h2 := hS.sub x hx
        omega
      have HBD := Lib.hid hbd
      have hmx := maxd_bd (T.dep everyK) 4000 (by omega) (ar (nth t i).k).toNat S hbd
      rw [hXe] at hS'
      have HX := Lib.hid hX
      have HR := Lib.hid hR
      have hm : ar (nth t i).k = (((ar (nth t i).k).toNat : Nat) : Int) := by omega
      have HM := Lib.hid hm
      clear hr hS hg hp hXe hX hR hbd hm
      generalize nth t i = n at *
      have hm2 : (ar n.k).toNat ≤ 2 := by omega
      have hmS : (ar n.k).toNat ≤ S.length := by omega
      generalize (ar n.k).toNat = m at *
      clear hle har2
      have hsh := ho.shape
      rw [sv_len] at hsh
      obtain ⟨A5, c5, rfl, h51, h52⟩ := hsh
      unfold maxLen at h52
      go_wp2_with (first | ((go_at_call 52; (with_reducible refine (rArity_calls _ hga _).mono ?_); rintro e w' ⟨rfl, hw⟩; obtain rfl := hw.symm); rw [HM.out]))
      go_loopw [8, 9] (fun v8 v9 wr => ∃ j : Nat, v9 = .int .i64 j ∧ j ≤ m ∧ v8 = .int .i64 (maxd (T.dep everyK) j S) ∧ wr = wo) (fun _ v9 _ => m - (intOf v9).toNat)
      case atStart => exact ⟨0, rfl, by omega, val_int (maxd_zero _ _).symm, rfl⟩
      case round =>
        obtain ⟨j, rfl, hj, rfl, hwr⟩ := hrel
        obtain rfl := hwr.symm
        by_cases hjm : j < m
        · obtain ⟨y, hy⟩ : ∃ y, S[j]? = some y := ⟨_, List.getElem?_eq_getElem (by omega)⟩
          have hmx' := maxd_bd (T.dep everyK) 4000 (by omega) j S HBD.out
          have hyb := HBD.out y (List.mem_of_getElem? hy)
          have hyb0 := (T.dep_bd everyK y).1
          have HMX := Lib.hid (maxd_succ (T.dep everyK) y j S (fun z _ => (T.dep_bd everyK z).1) hy)
          obtain ⟨b5, o5, rfl, hb5, hc5⟩ := (ho.rd).int (maxd_top (T.dep everyK) j S hy)
          have hmx1 := hmx'.1
          have hmx2 := hmx'.2
          clear hy hmx'
          generalize maxd (T.dep everyK) j S = mv at *
          generalize T.dep everyK y = yv at *
          go_wp2_with fail
          go_roundw
          case rel => exact ⟨j + 1, by go_num, by omega, val_int (by rw [HMX.out]; split <;> omega), by first | rfl | trivial⟩
          case measure => simp [intOf]; omega
        · have hjm' : j = m := by omega
          subst hjm'
          have htop : (sv (T.dep everyK) S).take (S.length - j) = sv (T.dep everyK) R := by
            rw [HR.out]
            unfold sv
            rw [List.map_drop, List.reverse_drop, List.length_map]
          have hoR : Own (Ty.int .i64) 3 w.heap.size No wo (sv (T.dep everyK) R) (.slice A5 (S.length - j) c5) := by have := ho.take rfl (S.length - j) (by rw [sv_len]; omega); rwa [htop] at this
          have hRl : (sv (T.dep everyK) R).length ≤ 4000 := by rw [← htop, List.length_take, sv_len]; omega
          have hmx1 := hmx.1
          have hmx2 := hmx.2
          clear htop hj hjm hmx
          generalize maxd (T.dep everyK) j S = mv at *
          have hbase : w.heap.size ≤ wo.heap.size := he.le
          by_cases hk : everyK n.k = true
          · have HX' : Hid (T.dep everyK X = mv + 1) := by have := HX.out; rwa [if_pos hk] at this
            try (have hk8 : (n.k == 8) = true := hk)
            clear HX hk
            go_wp2_with (first | ((with_reducible refine gate_bi .append #[.tmp 55, .tmp 57] ?_); refine wp_append (t := Ty.int .i64) 3 w.heap.size 8 elInt No _ (sv (T.dep everyK) R) rfl (hoR.ext (by (repeat (first | assumption | exact Ext.refl _ | apply Ext.alloc | apply Ext.drew | apply Ext.drewN | refine Ext.trans ?_ (by assumption))))) _ [mv + 1] rfl Any (SlP.one _ _ (fun _ _ => rfl)) (fun _ _ h => h) (by simp; omega) (by decide) (by simp; omega) ?_; intro v6 w6 ho6 hg6 _; have hx6 := Ext.grown (by (repeat (first | assumption | exact Ext.refl _ | apply Ext.alloc | apply Ext.drew | apply Ext.drewN | refine Ext.trans ?_ (by assumption))) : Ext w _) hg6 hoR.lo))
            go_roundw
            case rel => exact ⟨i + 1, X :: R, by go_num, by omega, hS', by rw [sv_push, HX'.out]; exact ho6, hx6⟩
            case measure => simp [intOf]; omega
          · first
              | exact absurd (rfl : everyK n.k = true) hk
              | (have HX' : Hid (T.dep everyK X = mv) := by have := HX.out; rw [if_neg hk] at this; show _ = _; omega
                 have hk8 : (n.k == 8) = false := by simpa [starK] using hk
                 clear HX hk
                 go_wp2_with (first | ((with_reducible refine gate_bi .append #[.tmp 55, .tmp 57] ?_); refine wp_append (t := Ty.int .i64) 3 w.heap.size 8 elInt No _ (sv (T.dep everyK) R) rfl (hoR.ext (by (repeat (first | assumption | exact Ext.refl _ | apply Ext.alloc | apply Ext.drew | apply Ext.drewN | refine Ext.trans ?_ (by assumption))))) _ [mv] rfl Any (SlP.one _ _ (fun _ _ => rfl)) (fun _ _ h => h) (by simp; omega) (by decide) (by simp; omega) ?_; intro v6 w6 ho6 hg6 _; have hx6 := Ext.grown (by (repeat (first | assumption | exact Ext.refl _ | apply Ext.alloc | apply Ext.drew | apply Ext.drewN | refine Ext.trans ?_ (by assumption))) : Ext w _) hg6 hoR.lo))
                 go_roundw
                 case rel => exact ⟨i + 1, X :: R, by go_num, by omega, hS', by rw [sv_push, HX'.out]; exact ho6, hx6⟩
                 case measure => simp [intOf]; omega)
    · have hi' : i = t.length := by omega
      subst hi'
      obtain ⟨y, rfl, hyw, hyf⟩ := hS.done
      have hxy : y = x := flat_inj hyw hx (by rw [hyf, HT.out])
      subst hxy
      have hsh := ho.shape
      obtain ⟨A5, c5, rfl, h51, h52⟩ := hsh
      obtain ⟨b5, o5, rfl, hb5, hc5⟩ := (ho.rd).int (sv_top (T.dep everyK) y [])
      have HL := Lib.hid (sv_len (T.dep everyK) [y])
      have hl0 : 0 < (sv (T.dep everyK) [y]).length := by rw [sv_len]; exact Nat.one_pos
      simp only [List.length_nil, Nat.add_zero] at hc5
      clear hS hyf hr HT
      go_wp2_with fail
      go_ret
      exact ⟨rfl, he⟩

theorem rdepth_stars (x : T) (hx : x.wf) (t : List Nd) (ht : t = x.flat) (hlen : t.length ≤ 4000) (v : Value) (w : World) (hr : Rd tyNd w t v) :
    Calls Try.prog 43 #[v, .bool true] w fun e w' => e = .returned (.int .i64 (x.dep starK)) ∧ Ext w w' := by
  obtain ⟨A, c, rfl, hlc, hcm⟩ := hr.shape
  unfold maxLen at hcm
  have HO : Hid (ok 0 t = true) := by show _ = _; rw [ht]; exact ok_tree hx
  have HT := Lib.hid ht
  clear ht
  go_enter Try.func43, Try.ntmps43
  go_wp2_with fail
  go_loopw [5, 6] (fun v5 v6 wr => ∃ (i : Nat) (S : List T), v6 = .int .i64 i ∧ i ≤ t.length ∧ St t i S ∧ Own (Ty.int .i64) 3 w.heap.size No wr (sv (T.dep starK) S) v5 ∧ Ext w wr) (fun _ v6 _ => t.length - (intOf v6).toNat)
  case atStart => exact ⟨0, [], rfl, by omega, St.start HO.out, Own.nil _ _ _ _ _, Ext.refl _⟩
  case round =>
    obtain ⟨i, S, rfl, hi, hS, ho, he⟩ := hrel
    obtain ⟨wo, rfl⟩ : ∃ wo : World, wo = wr := ⟨_, rfl⟩
    by_cases hlt : i < t.length
    · obtain ⟨b, off, rfl, hb, hc0, hc1⟩ := rd_node (hr.ext he) hlt
      obtain ⟨hg, hle, hp, hS'⟩ := hS.next hlt
      have hga := good_ar hg
      have har2 := (ar_le (nth t i).k).2
      have hsl := hS.len
      obtain ⟨X, R, hXe, hR, hX⟩ := dep_push starK hp
      have hbd : ∀ x ∈ S, T.dep starK x ≤ 4000 := fun x hx => by
        have h1 := (T.dep_bd starK x).2
        have h2 := hS.sub x hx
        omega
      have HBD := Lib.hid hbd
      have hmx := maxd_bd (T.dep starK) 4000 (by omega) (ar (nth t i).k).toNat S hbd
      rw [hXe] at hS'
      have HX := Lib.hid hX
      have HR := Lib.hid hR
      have hm : ar (nth t i).k = (((ar (nth t i).k).toNat : Nat) : Int) := by omega
      have HM := Lib.hid hm
      clear hr hS hg hp hXe hX hR hbd hm
      generalize nth t i = n at *
      have hm2 : (ar n.k).toNat ≤ 2 := by omega
      have hmS : (ar n.k).toNat ≤ S.length := by omega
      generalize (ar n.k).toNat = m at *
      clear hle har2
      have hsh := ho.shape
      rw [sv_len] at hsh
      obtain ⟨A5, c5, rfl, h51, h52⟩ := hsh
      unfold maxLen at h52
      go_wp2_with (first | ((go_at_call 52; (with_reducible refine (rArity_calls _ hga _).mono ?_); rintro e w' ⟨rfl, hw⟩; obtain rfl := hw.symm); rw [HM.out]))
      go_loopw [8, 9] (fun v8 v9 wr => ∃ j : Nat, v9 = .int .i64 j ∧ j ≤ m ∧ v8 = .int .i64 (maxd (T.dep starK) j S) ∧ wr = wo) (fun _ v9 _ => m - (intOf v9).toNat)
      case atStart => exact ⟨0, rfl, by omega, val_int (maxd_zero _ _).symm, rfl⟩
      case round =>
        obtain ⟨j, rfl, hj, rfl, hwr⟩ := hrel
        obtain rfl := hwr.symm
        by_cases hjm : j < m
        · obtain ⟨y, hy⟩ : ∃ y, S[j]? = some y := ⟨_, List.getElem?_eq_getElem (by omega)⟩
          have hmx' := maxd_bd (T.dep starK) 4000 (by omega) j S HBD.out
          have hyb := HBD.out y (List.mem_of_getElem? hy)
          have hyb0 := (T.dep_bd starK y).1
          have HMX := Lib.hid (maxd_succ (T.dep starK) y j S (fun z _ => (T.dep_bd starK z).1) hy)
          obtain ⟨b5, o5, rfl, hb5, hc5⟩ := (ho.rd).int (maxd_top (T.dep starK) j S hy)
          have hmx1 := hmx'.1
          have hmx2 := hmx'.2
          clear hy hmx'
          generalize maxd (T.dep starK) j S = mv at *
          generalize T.dep starK y = yv at *
          go_wp2_with fail
          go_roundw
          case rel => exact ⟨j + 1, by go_num, by omega, val_int (by rw [HMX.out]; split <;> omega), by first | rfl | trivial⟩
          case measure => simp [intOf]; omega
        · have hjm' : j = m := by omega
          subst hjm'
          have htop : (sv (T.dep starK) S).take (S.length - j) = sv (T.dep starK) R := by
            rw [HR.out]
            unfold sv
            rw [List.map_drop, List.reverse_drop, List.length_map]
          have hoR : Own (Ty.int .i64) 3 w.heap.size No wo (sv (T.dep starK) R) (.slice A5 (S.length - j) c5) := by have := ho.take rfl (S.length - j) (by rw [sv_len]; omega); rwa [htop] at this
          have hRl : (sv (T.dep starK) R).length ≤ 4000 := by rw [← htop, List.length_take, sv_len]; omega
          have hmx1 := hmx.1
          have hmx2 := hmx.2
          clear htop hj hjm hmx
          generalize maxd (T.dep starK) j S = mv at *
          have hbase : w.heap.size ≤ wo.heap.size := he.le
          by_cases hk : starK n.k = true
          · have HX' : Hid (T.dep starK X = mv + 1) := by have := HX.out; rwa [if_pos hk] at this
            try (have hk8 : (n.k == 8) = true := hk)
            clear HX hk
            go_wp2_with (first | ((with_reducible refine gate_bi .append #[.tmp 55, .tmp 57] ?_); refine wp_append (t := Ty.int .i64) 3 w.heap.size 8 elInt No _ (sv (T.dep starK) R) rfl (hoR.ext (by (repeat (first | assumption | exact Ext.refl _ | apply Ext.alloc | apply Ext.drew | apply Ext.drewN | refine Ext.trans ?_ (by assumption))))) _ [mv + 1] rfl Any (SlP.one _ _ (fun _ _ => rfl)) (fun _ _ h => h) (by simp; omega) (by decide) (by simp; omega) ?_; intro v6 w6 ho6 hg6 _; have hx6 := Ext.grown (by (repeat (first | assumption | exact Ext.refl _ | apply Ext.alloc | apply Ext.drew | apply Ext.drewN | refine Ext.trans ?_ (by assumption))) : Ext w _) hg6 hoR.lo))
            go_roundw
            case rel => exact ⟨i + 1, X :: R, by go_num, by omega, hS', by rw [sv_push, HX'.out]; exact ho6, hx6⟩
            case measure => simp [intOf]; omega
          · first
              | exact absurd (rfl : starK n.k = true) hk
              | (have HX' : Hid (T.dep starK X = mv) := by have := HX.out; rw [if_neg hk] at this; show _ = _; omega
                 have hk8 : (n.k == 8) = false := by simpa [starK] using hk
                 clear HX hk
                 go_wp2_with (first | ((with_reducible refine gate_bi .append #[.tmp 55, .tmp 57] ?_); refine wp_append (t := Ty.int .i64) 3 w.heap.size 8 elInt No _ (sv (T.dep starK) R) rfl (hoR.ext (by (repeat (first | assumption | exact Ext.refl _ | apply Ext.alloc | apply Ext.drew | apply Ext.drewN | refine Ext.trans ?_ (by assumption))))) _ [mv] rfl Any (SlP.one _ _ (fun _ _ => rfl)) (fun _ _ h => h) (by simp; omega) (by decide) (by simp; omega) ?_; intro v6 w6 ho6 hg6 _; have hx6 := Ext.grown (by (repeat (first | assumption | exact Ext.refl _ | apply Ext.alloc | apply Ext.drew | apply Ext.drewN | refine Ext.trans ?_ (by assumption))) : Ext w _) hg6 hoR.lo))
                 go_roundw
                 case rel => exact ⟨i + 1, X :: R, by go_num, by omega, hS', by rw [sv_push, HX'.out]; exact ho6, hx6⟩
                 case measure => simp [intOf]; omega)
    · have hi' : i = t.length := by omega
      subst hi'
      obtain ⟨y, rfl, hyw, hyf⟩ := hS.done
      have hxy : y = x := flat_inj hyw hx (by rw [hyf, HT.out])
      subst hxy
      have hsh := ho.shape
      obtain ⟨A5, c5, rfl, h51, h52⟩ := hsh
      obtain ⟨b5, o5, rfl, hb5, hc5⟩ := (ho.rd).int (sv_top (T.dep starK) y [])
      have HL := Lib.hid (sv_len (T.dep starK) [y])
      have hl0 : 0 < (sv (T.dep starK) [y]).length := by rw [sv_len]; exact Nat.one_pos
      simp only [List.length_nil, Nat.add_zero] at hc5
      clear hS hyf hr HT
      go_wp2_with fail
      go_ret
      exact ⟨rfl, he⟩
end Go.Proofs.Ytaijjnndnoicpaa
