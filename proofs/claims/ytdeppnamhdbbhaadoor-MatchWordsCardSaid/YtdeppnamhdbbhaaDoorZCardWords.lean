/- The card of the law MatchWords, out of its walk. Conditions: none. -/
import Derived.Deep.RegionWith
import Derived.Deep.RegionLaw
import Derived.Deep.RegionHeld3
import Derived.WalkKit
import Derived.ProofKit
import Derived.OpenShut
import Derived.ShutString
import Derived.ChangeOld
import Derived.Below
import Derived.SizedLaws
import Derived.Carry
import Derived.LaidMore
import Derived.Stop.Joined
import Derived.SevenTiedAt
import Derived.Test.YtdeppnamhdbbhaaDoorCards
import Derived.Test.YtdeppnamhdbbhaaDoorTie
import Derived.Test.YtdeppnamhdbbhaaDoorZ3
namespace Go.Proofs.YtdeppnamhdbbhaaDoor
open Go.RowKit Go.Eg

theorem bt_ext (s : ByteArray) (i j m : Nat) (h : i + m < j) : bt (s.extract i j) m = bt s (i + m) := by
  have hd : (s.extract i j).data.toList = (s.data.toList.drop i).take (j - i) := by
    simp only [ByteArray.data_extract, Array.toList_extract, List.extract]
  unfold bt
  rw [hd, List.getD_eq_getElem?_getD, List.getD_eq_getElem?_getD, List.getElem?_take, if_pos (by omega), List.getElem?_drop]
theorem word_all {s : ByteArray} (h : wordE s = 0) : ∀ m, m < s.size → 97 ≤ bt s m ∧ bt s m ≤ 104 := by
  intro m hm
  rcases Classical.em (97 ≤ bt s m ∧ bt s m ≤ 104) with h1 | h1
  · exact h1
  · rw [word_bad hm h1] at h; cases h
theorem ext_size (s : ByteArray) (i j : Nat) (hij : i ≤ j) (hj : j ≤ s.size) : (s.extract i j).size = j - i := by rw [ByteArray.size_extract]; omega
theorem word_ext0 {s : ByteArray} (h : wordE s = 0) (i j : Nat) (hij : i ≤ j) (hj : j ≤ s.size) : wordE (s.extract i j) = 0 := by
  have hs := word_size h
  have hz := ext_size s i j hij hj
  rw [word_good (fun m hm => by rw [hz] at hm; rw [bt_ext s i j m (by omega)]; exact word_all h _ (by omega)), if_neg (by omega)]
section
variable {x : T} {s : ByteArray} (hw : x.wf) (hl : x.flat.length ≤ 4000) (hs : wordE s = 0)
include hw hl hs
theorem head_mem (i : Nat) (hi : i ≤ s.size) : memR x.flat (s.extract 0 i) = x.says (bt s) 0 i := by
  rw [memR_flat hw hl (word_ext0 hs 0 i (by omega) hi), ext_size s 0 i (by omega) hi, Nat.sub_zero]
  exact mem_head _ _ x i (fun m hm => by rw [bt_ext s 0 i m (by omega), Nat.zero_add])
theorem tail_mem (i : Nat) (hi : i ≤ s.size) : memR x.flat (s.extract i s.size) = x.says (bt s) i s.size := by
  rw [memR_flat hw hl (word_ext0 hs i s.size hi (Nat.le_refl _)), ext_size s i s.size hi (Nat.le_refl _), ← mem_piece (bt s) x i s.size hi]
  exact mem_head (fun m => bt s (m + i)) _ x (s.size - i) (fun m hm => by rw [bt_ext s i s.size m (by omega), Nat.add_comm])
end
/-- By the first k cuts. -/
def cutTo (x y : T) (c : Nat → Int) (n k : Nat) : Bool := (List.range k).any fun i => x.says c 0 i && y.says c i n
theorem cutTo_succ (x y : T) (c : Nat → Int) (n k : Nat) : cutTo x y c n (k + 1) = (cutTo x y c n k || (x.says c 0 k && y.says c k n)) := by simp [cutTo, List.range_succ]
theorem cut_all (x y : T) (c : Nat → Int) (n : Nat) : memB c n (.bin ⟨7, 0⟩ x y) = cutTo x y c n (n + 1) := by
  rw [Bool.eq_iff_iff, mem_concat]
  simp only [cutTo, List.any_eq_true, List.mem_range, Bool.and_eq_true]
  constructor
  · rintro ⟨i, h1, h2, h3⟩; exact ⟨i, by omega, h2, h3⟩
  · rintro ⟨i, h1, h2, h3⟩; exact ⟨i, by omega, h2, h3⟩
/-- The empty word, or by the first k cuts behind a letter. -/
def starTo (x : T) (c : Nat → Int) (n k : Nat) : Bool := decide (n = 0) || (List.range k).any fun i => decide (1 ≤ i) && (x.says c 0 i && (T.un ⟨8, 0⟩ x).says c i n)
theorem starTo_one (x : T) (c : Nat → Int) (n : Nat) : starTo x c n 1 = decide (n = 0) := by simp [starTo, List.range_succ]
theorem starTo_succ (x : T) (c : Nat → Int) (n k : Nat) (hk : 1 ≤ k) : starTo x c n (k + 1) = (starTo x c n k || (x.says c 0 k && (T.un ⟨8, 0⟩ x).says c k n)) := by
  simp [starTo, List.range_succ, hk, Bool.or_assoc]
theorem star_all (x : T) (c : Nat → Int) (n : Nat) : memB c n (.un ⟨8, 0⟩ x) = starTo x c n (n + 1) := by
  rw [Bool.eq_iff_iff, mem_star]
  simp only [starTo, Bool.or_eq_true, decide_eq_true_eq, List.any_eq_true, List.mem_range, Bool.and_eq_true]
  constructor
  · rintro (h | ⟨i, h0, h1, h2, h3⟩)
    · exact .inl h
    · exact .inr ⟨i, by omega, h0, h2, h3⟩
  · rintro (h | ⟨i, h1, h0, h2, h3⟩)
    · exact .inl h
    · exact .inr ⟨i, h0, by omega, h2, h3⟩
theorem one_mem (x : T) (c : Nat → Int) (n : Nat) : memB c n (.bin ⟨7, 0⟩ x (.leaf ⟨2, 0⟩)) = memB c n x := by
  rw [Bool.eq_iff_iff, mem_concat]
  have e : ∀ i j, (T.leaf ⟨2, 0⟩).says c i j = (i == j) := fun i j => rfl
  constructor
  · rintro ⟨i, h1, h2, h3⟩
    rw [e, beq_iff_eq] at h3
    subst h3; exact h2
  · intro h; exact ⟨n, Nat.le_refl _, h, by rw [e]; simp⟩
theorem nought_mem (x : T) (c : Nat → Int) (n : Nat) : memB c n (.bin ⟨7, 0⟩ (.leaf ⟨1, 0⟩) x) = false := by
  cases h : memB c n (.bin ⟨7, 0⟩ (.leaf ⟨1, 0⟩) x)
  · rfl
  · obtain ⟨i, _, h2, _⟩ := (mem_concat c n _ _).1 h
    have e : (T.leaf ⟨1, 0⟩).says c 0 i = false := rfl
    rw [e] at h2; cases h2

theorem lit_leaf (W : World) (e : TypeId) (k : Int) : Rd tyNd (W.alloc (.cells #[.int .i64 k, .int .u8 0] e)) [⟨k, 0⟩] (.slice (some ⟨W.heap.size, 0, none⟩) 1 1) :=
  SlP.one (t := tyNd) ⟨k, 0⟩ _ (fun _ _ => ⟨rfl, by simp⟩)
theorem rd_lit2at {w : World} {e : TypeId} {x y : List Nd} {u u' : Value} {b : Nat} (hb : b = w.heap.size) (h : Rd tyNd w x u) (h' : Rd tyNd w y u') : Rd (Ty.slice tyNd) (w.alloc (.cells #[u, u'] e)) [x, y] (.slice (some ⟨b, 0, none⟩) 2 2) := by
  subst hb; exact rd_lit2 h h'
set_option maxHeartbeats 16000000 in
set_option maxRecDepth 100000 in
theorem lawKleene_calls (t u : List Nd) (s : ByteArray) (w : World) (hT : Tab w) (va : Value) (hra : Rd tyNd w t va) (hla : t.length * 16 ≤ 140737488351232) (vb : Value) (hrb : Rd tyNd w u vb) (hlb : u.length * 16 ≤ 140737488351232) (hs : s.size ≤ 140737488351232) :
    Calls Tryd.prog 4 #[va, vb, .string s] w fun e w' => e = .returned (.bool true) ∧ Ext w w' := by
  obtain ⟨A1, c1, rfl, hl1, hm1⟩ := hra.shape
  obtain ⟨A2, c2, rfl, hl2, hm2⟩ := hrb.shape
  have HGa := Lib.hid (good6_calls t _ s w hra (by omega))
  have HGb := Lib.hid (fun w' (hE : Ext w w') => good6_calls u _ s w' (hrb.ext hE) (by omega))
  have HLv := Lib.hid (fun w' (hE : Ext w w') => live6_calls w' (hT.ext hE))
  cases hga : goodR t s with
  | false =>
    rw [hga] at HGa
    clear hga hT hra hrb
    go_enter Tryd.func4, Tryd.ntmps4
    go_wp2_with (first
      | ((go_at_call 7; (with_reducible refine (HGa.out).mono ?_); rintro e w1 ⟨rfl, h1⟩))
      | ((go_at_call 8; (with_reducible refine (HLv.out _ h1).mono ?_); rintro e w2 ⟨rfl, h2⟩)))
    go_ret
    exact ⟨rfl, h1.trans h2⟩
  | true =>
    cases hgb : goodR u s with
    | false =>
      rw [hga] at HGa
      rw [hgb] at HGb
      clear hga hgb hT hra hrb
      go_enter Tryd.func4, Tryd.ntmps4
      go_wp2_with (first
        | ((go_at_call 7; (with_reducible refine (HGa.out).mono ?_); rintro e w1 ⟨rfl, h1⟩))
        | ((go_at_call 7; (with_reducible refine (HGb.out _ h1).mono ?_); rintro e w2 ⟨rfl, h2⟩))
        | ((go_at_call 8; (with_reducible refine (HLv.out _ (h1.trans h2)).mono ?_); rintro e w3 ⟨rfl, h3⟩)))
      go_ret
      exact ⟨rfl, (h1.trans h2).trans h3⟩
    | true =>
      obtain ⟨x, hxw, rfl, hxl, hse, hs5⟩ := good_of hga
      obtain ⟨y, hyw, rfl, hyl, _, _⟩ := good_of hgb
      rw [hga] at HGa
      rw [hgb] at HGb
      have ht1 : (x.flat).length ≤ 4000 := by omega
      have ht2 : (y.flat).length ≤ 4000 := by omega
      have HIn := Lib.hid (fun (L : List Nd) v w' (hE : Ext w w') (hr : Rd tyNd w' L v) => in6_calls L v s w' hr hs (hT.ext hE))
      have HIa := Lib.hid (fun w' (hE : Ext w w') => in6_calls x.flat _ s w' (hra.ext hE) hs (hT.ext hE))
      rw [memR_flat hxw ht1 hse] at HIa
      have HIt : Hid (∀ i, i ≤ s.size → ∀ w', Ext w w' → Calls Tryd.prog 9 #[.slice A1 x.flat.length c1, .string (s.extract 0 i)] w' fun e w'' => e = .returned (.bool (x.says (bt s) 0 i)) ∧ Ext w' w'') := Lib.hid (fun i hi w' hE => by
        have := in6_calls x.flat _ (s.extract 0 i) w' (hra.ext hE) (by rw [ext_size s 0 i (by omega) hi]; omega) (hT.ext hE)
        rw [head_mem hxw ht1 hse i hi] at this
        exact this)
      have HIu : Hid (∀ i, i ≤ s.size → ∀ w', Ext w w' → Calls Tryd.prog 9 #[.slice A2 y.flat.length c2, .string (s.extract i s.size)] w' fun e w'' => e = .returned (.bool (y.says (bt s) i s.size)) ∧ Ext w' w'') := Lib.hid (fun i hi w' hE => by
        have := in6_calls y.flat _ (s.extract i s.size) w' (hrb.ext hE) (by rw [ext_size s i s.size hi (Nat.le_refl _)]; omega) (hT.ext hE)
        rw [tail_mem hyw ht2 hse i hi] at this
        exact this)
      have hswf : (T.un ⟨8, 0⟩ x).wf := ⟨by decide, by decide, hxw⟩
      have hsl : (T.un ⟨8, 0⟩ x).flat.length ≤ 4000 := by simp [T.flat]; omega
      have HIs : Hid (∀ i, i ≤ s.size → ∀ v w', Ext w w' → Rd tyNd w' ([x.flat].flatten ++ [⟨8, 0⟩]) v → Calls Tryd.prog 9 #[v, .string (s.extract i s.size)] w' fun e w'' => e = .returned (.bool ((T.un ⟨8, 0⟩ x).says (bt s) i s.size)) ∧ Ext w' w'') := Lib.hid (fun i hi v w' hE hr => by
        rw [un_flat] at hr
        have := in6_calls _ _ (s.extract i s.size) w' hr (by rw [ext_size s i s.size hi (Nat.le_refl _)]; omega) (hT.ext hE)
        rw [tail_mem hswf hsl hse i hi] at this
        exact this)
      have HC : Hid (∀ v w', Rd (Ty.slice tyNd) w' [x.flat, y.flat] v → Calls Tryd.prog 10 #[.agg #[.int .i64 7, .int .u8 0], v] w' (MadePost ([x.flat, y.flat].flatten ++ [⟨7, 0⟩]) w')) := Lib.hid (fun v w' hr => rMade_calls ⟨7, 0⟩ (by decide) [x.flat, y.flat] (by simp; omega) v w' hr (by simp))
      have HS : Hid (∀ v w', Rd (Ty.slice tyNd) w' [x.flat] v → Calls Tryd.prog 10 #[.agg #[.int .i64 8, .int .u8 0], v] w' (MadePost ([x.flat].flatten ++ [⟨8, 0⟩]) w')) := Lib.hid (fun v w' hr => rMade_calls ⟨8, 0⟩ (by decide) [x.flat] (by simp; omega) v w' hr (by simp))
      have HO : Hid (∀ v w', Rd (Ty.slice tyNd) w' [x.flat, [⟨2, 0⟩]] v → Calls Tryd.prog 10 #[.agg #[.int .i64 7, .int .u8 0], v] w' (MadePost ([x.flat, [⟨2, 0⟩]].flatten ++ [⟨7, 0⟩]) w')) := Lib.hid (fun v w' hr => rMade_calls ⟨7, 0⟩ (by decide) [x.flat, [⟨2, 0⟩]] (by simp; omega) v w' hr (by simp))
      have HN : Hid (∀ v w', Rd (Ty.slice tyNd) w' [[⟨1, 0⟩], x.flat] v → Calls Tryd.prog 10 #[.agg #[.int .i64 7, .int .u8 0], v] w' (MadePost ([[⟨1, 0⟩], x.flat].flatten ++ [⟨7, 0⟩]) w')) := Lib.hid (fun v w' hr => rMade_calls ⟨7, 0⟩ (by decide) [[⟨1, 0⟩], x.flat] (by simp; omega) v w' hr (by simp))
      have MC := Lib.hid ((bin_mem hxw hyw hxl hyl hse ⟨7, 0⟩ (by decide) (by decide)).trans (cut_all _ _ _ _))
      have MS := Lib.hid ((un_mem hxw hxl hse ⟨8, 0⟩ (by decide) (by decide)).trans (star_all _ _ _))
      have MO := Lib.hid ((bin_mem (y := .leaf ⟨2, 0⟩) hxw ⟨by decide, by decide⟩ hxl (by decide) hse ⟨7, 0⟩ (by decide) (by decide)).trans (one_mem _ _ _))
      have MN := Lib.hid ((bin_mem (x := .leaf ⟨1, 0⟩) (y := x) ⟨by decide, by decide⟩ hxw (by decide) hxl hse ⟨7, 0⟩ (by decide) (by decide)).trans (nought_mem _ _ _))
      simp only [T.flat] at MO MN
      generalize [[(⟨1, 0⟩ : Nd)], x.flat].flatten ++ [(⟨7, 0⟩ : Nd)] = L4 at *
      generalize [x.flat, [(⟨2, 0⟩ : Nd)]].flatten ++ [(⟨7, 0⟩ : Nd)] = L3 at *
      generalize [x.flat].flatten ++ [(⟨8, 0⟩ : Nd)] = L2 at *
      generalize [x.flat, y.flat].flatten ++ [(⟨7, 0⟩ : Nd)] = L1 at *
      have HRa := Lib.hid hra
      have HRb := Lib.hid hrb
      have HCS := Lib.hid (cutTo_succ x y (bt s) s.size)
      have HSS := Lib.hid (starTo_succ x (bt s) s.size)
      have HS1 := Lib.hid (starTo_one x (bt s) s.size)
      generalize memB (bt s) s.size x = a at *
      clear hga hgb hT hra hrb ht1 ht2 hsl hswf hxl hyl hxw hyw hse
      go_enter Tryd.func4, Tryd.ntmps4
      go_wp2_with (first
        | ((go_at_call 7; (with_reducible refine (HGa.out).mono ?_); rintro e w1 ⟨rfl, h1⟩))
        | ((go_at_call 7; (with_reducible refine (HGb.out _ h1).mono ?_); rintro e w2 ⟨rfl, h2⟩); have E2 := h1.trans h2)
        | ((go_at_call 10; (with_reducible refine (HC.out _ _ (rd_lit2 (HRa.out.ext E2) (HRb.out.ext E2))).mono ?_); rintro e w5 ⟨v5, rfl, ho5, h5⟩); obtain ⟨A5, c5, rfl, _, _⟩ := ho5.shape; have E5 := (E2.alloc _).trans h5))
      go_loopw [8, 9] (fun v8 v9 wr => ∃ i : Nat, v9 = .int .i64 i ∧ i ≤ s.size + 1 ∧ v8 = .bool (cutTo x y (bt s) s.size i) ∧ Ext w5 wr) (fun _ v9 _ => s.size + 1 - (intOf v9).toNat)
      case atStart => exact ⟨0, rfl, by omega, rfl, Ext.refl _⟩
      case round =>
        clear h1 h2 h5
        obtain ⟨i, rfl, hi, rfl, he⟩ := hrel
        have Er := E5.trans he
        by_cases hlt : i < s.size + 1
        · have hle : i ≤ s.size := by omega
          have hle2 : ¬ ((s.size : Int) < (i : Int)) := by omega
          have HA := Lib.hid (HIt.out i hle)
          have HB := Lib.hid (HIu.out i hle)
          have HCi := Lib.hid (HCS.out i)
          cases hc : cutTo x y (bt s) s.size i with
          | true =>
            rw [hc] at HCi
            go_wp2_with fail
            go_roundw
            case rel => exact ⟨i + 1, by go_num, by omega, by rw [HCi.out]; rfl, he⟩
            case measure => simp [intOf]; omega
          | false =>
            rw [hc] at HCi
            cases ha : x.says (bt s) 0 i with
            | false =>
              rw [ha] at HA HCi
              go_wp2_with ((go_at_call 9; (with_reducible refine (HA.out _ Er).mono ?_); rintro e w6 ⟨rfl, h6⟩))
              go_roundw
              case rel => exact ⟨i + 1, by go_num, by omega, by rw [HCi.out]; rfl, he.trans h6⟩
              case measure => simp [intOf]; omega
            | true =>
              rw [ha] at HA HCi
              go_wp2_with (first
                | ((go_at_call 9; (with_reducible refine (HA.out _ Er).mono ?_); rintro e w6 ⟨rfl, h6⟩))
                | ((go_at_call 9; (with_reducible refine (HB.out _ (Er.trans h6)).mono ?_); rintro e w7 ⟨rfl, h7⟩)))
              go_roundw
              case rel => exact ⟨i + 1, by go_num, by omega, by rw [HCi.out]; rfl, (he.trans h6).trans h7⟩
              case measure => simp [intOf]; omega
        · have hi' : i = s.size + 1 := by omega
          subst hi'
          clear HIu hlt hi HCS
          go_wp2_with ((go_at_call 10; (with_reducible refine (HS.out _ _ (rd_lit1 (HRa.out.ext Er))).mono ?_); rintro e w6 ⟨v6, rfl, ho6, h6⟩); obtain ⟨A6, c6, rfl, _, _⟩ := ho6.shape; have E6 := (Er.alloc _).trans h6; have he6 := (he.alloc _).trans h6)
          go_loopw [11, 12] (fun v11 v12 wq => ∃ j : Nat, v12 = .int .i64 j ∧ 1 ≤ j ∧ j ≤ s.size + 1 ∧ v11 = .bool (starTo x (bt s) s.size j) ∧ Ext w6 wq) (fun _ v12 _ => s.size + 1 - (intOf v12).toNat)
          case atStart => exact ⟨1, rfl, by omega, by omega, congrArg Value.bool (by rw [HS1.out, Bool.eq_iff_iff]; simp), Ext.refl _⟩
          case round =>
            clear h6
            obtain ⟨j, rfl, hj1, hj, rfl, heq⟩ := hrel
            have Eq := E6.trans heq
            by_cases hlt : j < s.size + 1
            · have hle : j ≤ s.size := by omega
              have hle2 : ¬ ((s.size : Int) < (j : Int)) := by omega
              have HA := Lib.hid (HIt.out j hle)
              have HB := Lib.hid (HIs.out j hle)
              have HSj := Lib.hid (HSS.out j hj1)
              cases hc : starTo x (bt s) s.size j with
              | true =>
                rw [hc] at HSj
                go_wp2_with fail
                go_roundw
                case rel => exact ⟨j + 1, by go_num, by omega, by omega, by rw [HSj.out]; rfl, heq⟩
                case measure => simp [intOf]; omega
              | false =>
                rw [hc] at HSj
                cases ha : x.says (bt s) 0 j with
                | false =>
                  rw [ha] at HA HSj
                  go_wp2_with ((go_at_call 9; (with_reducible refine (HA.out _ Eq).mono ?_); rintro e w7 ⟨rfl, h7⟩))
                  go_roundw
                  case rel => exact ⟨j + 1, by go_num, by omega, by omega, by rw [HSj.out]; rfl, heq.trans h7⟩
                  case measure => simp [intOf]; omega
                | true =>
                  rw [ha] at HA HSj
                  go_wp2_with (first
                    | ((go_at_call 9; (with_reducible refine (HA.out _ Eq).mono ?_); rintro e w7 ⟨rfl, h7⟩))
                    | ((go_at_call 9; (with_reducible refine (HB.out _ _ (Eq.trans h7) (ho6.rd.ext (heq.trans h7))).mono ?_); rintro e w8 ⟨rfl, h8⟩)))
                  go_roundw
                  case rel => exact ⟨j + 1, by go_num, by omega, by omega, by rw [HSj.out]; rfl, (heq.trans h7).trans h8⟩
                  case measure => simp [intOf]; omega
            · have hj' : j = s.size + 1 := by omega
              subst hj'
              clear HIt HIs hlt hj hj1 HSS HS1
              generalize cutTo x y (bt s) s.size (s.size + 1) = cv at *
              generalize starTo x (bt s) s.size (s.size + 1) = sv at *
              have he5 := he6.trans heq
              cases cv <;> cases sv <;> cases a
              all_goals
                go_wp2_with (first
                  | ((go_at_call 10; (with_reducible refine (HO.out _ _ (rd_lit2at (by simp) (HRa.out.ext (Eq.alloc _)) (lit_leaf _ _ 2))).mono ?_); rintro e w7 ⟨v7, rfl, ho7, h7⟩); obtain ⟨A7, c7, rfl, _, _⟩ := ho7.shape; have g7 := (((Ext.refl _).alloc _).alloc _).trans h7; have E7 := Eq.trans g7)
                  | ((go_at_call 10; (with_reducible refine (HN.out _ _ (rd_lit2at (by simp) (lit_leaf _ _ 1) (HRa.out.ext (E7.alloc _)))).mono ?_); rintro e w8 ⟨v8, rfl, ho8, h8⟩); obtain ⟨A8, c8, rfl, _, _⟩ := ho8.shape; have g8 := (((Ext.refl w7).alloc _).alloc _).trans h8; have E8 := E7.trans g8)
                  | ((go_at_call 9; (with_reducible refine (HIn.out L1 _ _ E8 (ho5.rd.ext ((he5.trans g7).trans g8))).mono ?_); rintro e w9 ⟨rfl, h9⟩); rw [MC.out]; have E9 := E8.trans h9)
                  | ((go_at_call 9; (with_reducible refine (HIn.out L2 _ _ E9 (ho6.rd.ext (((heq.trans g7).trans g8).trans h9))).mono ?_); rintro e w10 ⟨rfl, h10⟩); rw [MS.out]; have E10 := E9.trans h10)
                  | ((go_at_call 9; (with_reducible refine (HIn.out L3 _ _ E10 (ho7.rd.ext ((g8.trans h9).trans h10))).mono ?_); rintro e w11 ⟨rfl, h11⟩); rw [MO.out]; have E11 := E10.trans h11)
                  | ((go_at_call 9; (with_reducible refine (HIa.out _ E11).mono ?_); rintro e w12 ⟨rfl, h12⟩); have E12 := E11.trans h12)
                  | ((go_at_call 9; (with_reducible refine (HIn.out L4 _ _ E12 (ho8.rd.ext (((h9.trans h10).trans h11).trans h12))).mono ?_); rintro e w13 ⟨rfl, h13⟩); rw [MN.out]; have E13 := E12.trans h13)
                  | ((go_at_call 8; (with_reducible refine (HLv.out _ E13).mono ?_); rintro e w14 ⟨rfl, h14⟩)))
                go_ret
                exact ⟨rfl, E13.trans h14⟩
end Go.Proofs.YtdeppnamhdbbhaaDoor
namespace Go.Proofs.YtdeppnamhdbbhaaDoor
open Go.RowKit Go.Eg

def chrB (l : Nat) : ByteArray := ⟨#[UInt8.ofNat (97 + l)]⟩
def extW (k : Nat) (w : ByteArray) : List ByteArray := (List.range k).map fun l => w ++ chrB l
/-- The words of m letters. -/
def lev (k : Nat) : Nat → List ByteArray
  | 0 => [⟨#[]⟩]
  | m + 1 => (lev k m).flatMap (extW k)
/-- The words of at most m letters. -/
def allTo (k : Nat) : Nat → List ByteArray
  | 0 => lev k 0
  | m + 1 => allTo k m ++ lev k (m + 1)
/-- The words of fewer than m letters. -/
def fewTo (k : Nat) : Nat → List ByteArray
  | 0 => []
  | m + 1 => fewTo k m ++ lev k m
theorem fewTo_all (k : Nat) : ∀ m, fewTo k (m + 1) = allTo k m
  | 0 => rfl
  | m + 1 => by rw [fewTo, fewTo_all k m, allTo]
theorem flat_len (k : Nat) : ∀ ws : List ByteArray, (ws.flatMap (extW k)).length = ws.length * k
  | [] => by simp
  | w :: ws => by rw [List.flatMap_cons, List.length_append, flat_len k ws, extW]; simp [Nat.add_mul, Nat.add_comm]
theorem lev_len (k : Nat) : ∀ m, (lev k m).length = k ^ m
  | 0 => rfl
  | m + 1 => by rw [lev, flat_len, lev_len k m, Nat.pow_succ]
theorem chr_size (l : Nat) : (chrB l).size = 1 := rfl
theorem lev_size (k : Nat) : ∀ m, ∀ w ∈ lev k m, w.size = m
  | 0, w, h => by simp [lev] at h; subst h; rfl
  | m + 1, w, h => by
    rw [lev, List.mem_flatMap] at h
    obtain ⟨u, hu, hw⟩ := h
    simp only [extW, List.mem_map, List.mem_range] at hw
    obtain ⟨l, _, rfl⟩ := hw
    rw [ByteArray.size_append, chr_size, lev_size k m u hu]
theorem allTo_mem {k m : Nat} {w : ByteArray} (h : w ∈ allTo k m) : ∃ i, i ≤ m ∧ w ∈ lev k i := by
  induction m with
  | zero => exact ⟨0, Nat.le_refl _, h⟩
  | succ m ih =>
    rw [allTo, List.mem_append] at h
    rcases h with h | h
    · obtain ⟨i, h1, h2⟩ := ih h; exact ⟨i, by omega, h2⟩
    · exact ⟨m + 1, Nat.le_refl _, h⟩
theorem allTo_mono (k : Nat) : ∀ {m n : Nat}, m ≤ n → (allTo k m).length ≤ (allTo k n).length := by
  intro m n h
  induction n with
  | zero =>
    obtain rfl : m = 0 := by omega
    exact Nat.le_refl _
  | succ n ih =>
    by_cases e : m = n + 1
    · subst e; exact Nat.le_refl _
    · have := ih (by omega); rw [allTo, List.length_append]; omega
theorem bt_chr (l : Nat) (h : l < 8) : bt (chrB l) 0 = 97 + l := by
  match l, h with
  | 0, _ | 1, _ | 2, _ | 3, _ | 4, _ | 5, _ | 6, _ | 7, _ => rfl
theorem lev_bt {k : Nat} (hk : k ≤ 8) : ∀ m, ∀ w ∈ lev k m, ∀ i, i < w.size → 97 ≤ bt w i ∧ bt w i ≤ 104
  | 0, w, h, i, hi => by simp [lev] at h; subst h; exact absurd hi (Nat.not_lt_zero _)
  | m + 1, w, h, i, hi => by
    rw [lev, List.mem_flatMap] at h
    obtain ⟨u, hu, hw⟩ := h
    simp only [extW, List.mem_map, List.mem_range] at hw
    obtain ⟨l, hl, rfl⟩ := hw
    rw [ByteArray.size_append, chr_size] at hi
    have hd : (u ++ chrB l).data.toList = u.data.toList ++ (chrB l).data.toList := by simp only [ByteArray.data_append, Array.toList_append]
    have hul : u.data.toList.length = u.size := Array.length_toList
    by_cases e : i < u.size
    · have : bt (u ++ chrB l) i = bt u i := by
        unfold bt
        rw [hd, List.getD_eq_getElem?_getD, List.getD_eq_getElem?_getD, List.getElem?_append_left (by omega)]
      rw [this]
      exact lev_bt hk m u hu i e
    · obtain rfl : i = u.size := by omega
      have : bt (u ++ chrB l) u.size = bt (chrB l) 0 := by
        unfold bt
        rw [hd, List.getD_eq_getElem?_getD, List.getD_eq_getElem?_getD, List.getElem?_append_right (by omega), hul, Nat.sub_self]
      rw [this, bt_chr l (by omega)]
      omega
theorem lev_word {k m : Nat} (hk : k ≤ 8) (hm : m ≤ 511) {w : ByteArray} (h : w ∈ lev k m) : wordE w = 0 := by
  rw [word_good (lev_bt hk m w h), lev_size k m w h, if_neg (by omega)]
def nthW (ws : List ByteArray) (a : Nat) : ByteArray := ws.getD a ⟨#[]⟩
theorem nthW_get {ws : List ByteArray} {a : Nat} (h : a < ws.length) : ws[a]? = some (nthW ws a) := by simp [nthW, List.getD_eq_getElem?_getD, List.getElem?_eq_getElem h]
theorem nthW_mem {ws : List ByteArray} {a : Nat} (h : a < ws.length) : nthW ws a ∈ ws := List.mem_of_getElem? (nthW_get h)
/-- The next level's words: of the first a words all, of the a-th the first l. -/
def part (k : Nat) (ws : List ByteArray) (a l : Nat) : List ByteArray := (ws.take a).flatMap (extW k) ++ (List.range l).map fun c => nthW ws a ++ chrB c
theorem part_zero (k : Nat) (ws : List ByteArray) : part k ws 0 0 = [] := by simp [part]
theorem part_step (k : Nat) (ws : List ByteArray) (a l : Nat) : part k ws a (l + 1) = part k ws a l ++ [nthW ws a ++ chrB l] := by simp [part, List.range_succ]
theorem part_next {k : Nat} {ws : List ByteArray} {a : Nat} (h : a < ws.length) : part k ws a k = part k ws (a + 1) 0 := by
  have : ws.take (a + 1) = ws.take a ++ [nthW ws a] := by rw [List.take_add_one, nthW_get h]; rfl
  simp only [part, this, List.flatMap_append, List.range_zero, List.map_nil, List.append_nil, List.flatMap_cons, List.flatMap_nil]
  rfl
theorem part_all (k : Nat) (ws : List ByteArray) : part k ws ws.length 0 = ws.flatMap (extW k) := by simp [part]
theorem part_len {k : Nat} {ws : List ByteArray} {a l : Nat} (h : a ≤ ws.length) : (part k ws a l).length = a * k + l := by
  rw [part, List.length_append, flat_len, List.length_take, Nat.min_eq_left h, List.length_map, List.length_range]
theorem part_lt {k : Nat} {ws : List ByteArray} {a l : Nat} (h : a < ws.length) (hl : l < k) : (part k ws a l).length < (ws.flatMap (extW k)).length := by
  rw [part_len (by omega), flat_len]
  have : (a + 1) * k ≤ ws.length * k := Nat.mul_le_mul_right _ h
  rw [Nat.add_mul, Nat.one_mul] at this
  omega
/-- What Words tells: its error, its list. -/
def wordsE (k : Int) (t : List Nd) (n : Int) : Int := if errW t ≠ 0 then errW t else if ¬ (1 ≤ k ∧ k ≤ 8) then 20 else if ¬ (0 ≤ n ∧ n ≤ 511) then 11 else if 1000 < (allTo k.toNat n.toNat).length then 6 else 0
def wordsL (k : Int) (t : List Nd) (n : Int) : List ByteArray := if wordsE k t n = 0 then (allTo k.toNat n.toNat).filter (memR t) else []
theorem mem_word {t : List Nd} (h : errW t = 0) {w : ByteArray} (hw : wordE w = 0) : memR t w = memB (bt w) w.size (tr t) := by
  obtain ⟨hl4, hok⟩ := errW_ok h
  obtain ⟨hwf, hfl⟩ := tr_of hok
  have := memR_flat hwf (by rw [hfl]; exact hl4) hw
  rw [hfl] at this
  exact this
end Go.Proofs.YtdeppnamhdbbhaaDoor
namespace Go.Eg
open Go.RowKit

/-- Where append moved the row, the old one stays as it was. -/
theorem append_apart {P : Program} {w : World} {T ty e sz bytes base : Nat} (he : Elem P T e sz bytes) {v : Value} {n : Nat} {cells : List Value} (ho : w.ownsRow base e sz v n cells) {ad : Addr} {m c : Nat} {news : List Value} (hm : 0 < m)
    (h1 : news.length = m * sz) (h2 : ∀ j u, news[j]? = some u → w.cell? (ad.add j) = some u) (h3 : ∀ u ∈ news, u.oneCell' = true) (hmax : n + m ≤ maxLen) (hlen : (n + m) * bytes ≤ 140737488355328)
    {v' : Value} {w' : World} (hr : (Builtin.append_ #[T, T] ty #[v, .slice (some ad) m c]).run P w = .ok v' w') : v'.ownBlock = v.ownBlock ∨ (v'.ownBlock = some w.heap.size ∧ w.grownBy w' none) := by
  obtain ⟨i, z, hu, hi, hz, hsz, hby, hzs, hsz0⟩ := he
  subst hsz hby
  have old : ∀ o : Obj, w.grownBy (w.drew.alloc o) none := fun o => ⟨rfl, rfl, rfl, by simp, fun k hk _ => ((Ext.refl w.drew).alloc o).block k hk⟩
  unfold maxLen at hmax
  rcases ho.2 with ⟨rfl, rfl⟩ | ⟨g, cap, cur, rfl, hb, hg, hnc, hcm, hcs, htake⟩
  · have hr2 := run_append_nil (P := P) w T ty e i z hu hi hz ad m c news h1 h2 hm (by omega) (by rw [Nat.zero_add] at hlen; omega)
    rw [hr] at hr2
    cases hr2
    exact .inr ⟨rfl, old _⟩
  · by_cases hroom : n + m ≤ cap
    · have hfit : n * i.size + news.length ≤ cur.size := by rw [h1, hcs, ← Nat.add_mul]; exact Nat.mul_le_mul_right _ hroom
      have hr2 := run_append_room (P := P) w T ty e i hu hi g n cap cur hg ad m c news h1 h2 h3 hroom hfit
      rw [hr] at hr2
      cases hr2
      exact .inl rfl
    · have hr2 := run_append_grow (P := P) w T ty e i z hu hi hz ⟨g, 0, none⟩ n cap cells ho.1 (ho.cells (g := g) rfl) ad m c news h1 h2 (by omega) (by omega) (growslice_fits (by omega) hlen)
      rw [hr] at hr2
      cases hr2
      exact .inr ⟨rfl, old _⟩

/-- An element's own row is changed. -/
theorem Own2.upd {α : Type} {t : Ty α} {e1 e base : Nat} {w w' : World} {xss : List (List α)} {g n c i : Nat} {u : Value} {x x' : List α} (h : Own2 t e1 e base w xss (.slice (some ⟨g, 0, none⟩) n c)) (hi : xss[i]? = some x)
    (hu : w.cell? ⟨g, i, none⟩ = some u) (hg : w.grownBy w' u.ownBlock) (ho : Own t e base No w' x' u) : Own2 t e1 e base w' (xss.set i x') (.slice (some ⟨g, 0, none⟩) n c) := by
  obtain ⟨vs, hrow, hel, hd⟩ := h
  obtain ⟨u0, hu0, hou0, hne0⟩ := hel i x hi
  have hadd : (⟨g, 0, none⟩ : Addr).add i = ⟨g, i, none⟩ := by
    unfold Addr.add
    split
    · rename_i h; rw [h]
    · simp
  have hc := hrow.cells (g := g) rfl i u0 hu0
  rw [hadd, hu] at hc
  obtain rfl := Option.some.inj hc
  have hil := (List.getElem?_eq_some_iff.1 hi).1
  refine ⟨vs, ?_, fun j y hy => ?_, hd⟩
  · rw [List.length_set]
    refine hrow.kept hg (.inr fun e => ?_)
    exact hne0 g e.symm rfl
  · rw [List.getElem?_set] at hy
    split at hy
    · rename_i hij
      subst hij
      try rw [if_pos hil] at hy
      cases hy
      exact ⟨u, hu0, ho, hne0⟩
    · rename_i hij
      obtain ⟨uj, huj, houj, hnej⟩ := hel j y hy
      exact ⟨uj, huj, houj.other hg (fun k hk he => hd i j u uj hij hu0 huj k he hk) (fun _ h => h.elim), hnej⟩

theorem Own.head {α : Type} {t : Ty α} {e base : Nat} {B : Nat → Prop} {w : World} {xs : List α} {v : Value} (h : Own t e base B w xs v) : ∃ A n c, v = .slice A n c ∧ (A = none ∨ ∃ g, A = some ⟨g, 0, none⟩) := by
  obtain ⟨A, c, rfl, _, _⟩ := h.shape
  refine ⟨A, _, c, rfl, ?_⟩
  rcases h.zero with ⟨rfl, _⟩ | ⟨g, rfl, _⟩
  · exact .inl rfl
  · exact .inr ⟨g, rfl⟩
theorem grownBy_later {a b c : World} {row row' : Option Nat} (h : a.grownBy b row) (k : b.grownBy c row') (hr : ∀ x, row' = some x → a.heap.size ≤ x) : a.grownBy c row :=
  ⟨k.os.trans h.os, k.tape.trans h.tape, k.output.trans h.output, Nat.le_trans h.size k.size, fun x hx hne => (k.block x (Nat.lt_of_lt_of_le hx h.size) (fun e => by have := hr x e.symm; omega)).trans (h.block x hx hne)⟩
/-- A row u that grows on (gv), while u itself is read as before; w0: the world when that began. -/
structure Grow {α : Type} (t : Ty α) (e base : Nat) (w0 : World) (u : Value) (y z : List α) (w : World) (gv : Value) : Prop where
  own : Own t e base No w (y ++ z) gv
  old : SlP t (fun b => u.ownBlock = some b) w y u
  lt0 : ∀ b, u.ownBlock = some b → b < w0.heap.size
  grown : w0.grownBy w u.ownBlock
  head : ∃ A n c, u = .slice A n c ∧ (A = none ∨ ∃ g, A = some ⟨g, 0, none⟩)
  lies : gv.ownBlock = u.ownBlock ∨ ∃ b, gv.ownBlock = some b ∧ w0.heap.size ≤ b
theorem Grow.start {α : Type} {t : Ty α} {e base : Nat} {w0 : World} {u : Value} {y : List α} (h : Own t e base No w0 y u) : Grow t e base w0 u y [] w0 u :=
  ⟨by rw [List.append_nil]; exact h, h.sl.mono (fun b hb => hb.elim False.elim id), fun b hb => (h.block b hb).2, ⟨rfl, rfl, rfl, Nat.le_refl _, fun _ _ _ => rfl⟩, Own.head h, .inl rfl⟩
theorem Grow.ext {α : Type} {t : Ty α} {e base : Nat} {w0 w w' : World} {u gv : Value} {y z : List α} (h : Grow t e base w0 u y z w gv) (he : Ext w w') : Grow t e base w0 u y z w' gv :=
  ⟨h.own.ext he, h.old.extB he, h.lt0, h.grown.trans (he.grownBy _), h.head, h.lies⟩
theorem Grow.step {α : Type} {t : Ty α} {e base : Nat} {w0 w w' : World} {u gv gv' : Value} {y z z' : List α} (h : Grow t e base w0 u y z w gv) (ho : Own t e base No w' (y ++ z') gv') (hg : w.grownBy w' gv.ownBlock)
    (hat : gv'.ownBlock = gv.ownBlock ∨ (gv'.ownBlock = some w.heap.size ∧ w.grownBy w' none)) : Grow t e base w0 u y z' w' gv' := by
  have hu : ∃ A c, u = .slice A y.length c ∧ y.length ≤ c ∧ c ≤ maxLen := h.old.any.shape
  refine ⟨ho, ?_, h.lt0, ?_, h.head, ?_⟩
  · rcases hat with hat | ⟨hat, hg0⟩
    · rcases h.lies with hl | ⟨b, hl, hb⟩
      · obtain ⟨A, c, rfl, h1, h2⟩ := hu
        have hs := ho.sl
        obtain ⟨A', c', e', h1', h2', hr⟩ := hs
        cases A with
        | none =>
          refine ⟨none, c, rfl, h1, h2, fun hne => ?_⟩
          obtain ⟨A0, c0, e0, _, _, hr0⟩ := h.old
          cases e0
          obtain ⟨b, off, e, _⟩ := hr0 hne
          cases e
        | some a =>
          obtain ⟨A0, c0, e0, h10, h20, hr0⟩ := h.old
          cases e0
          refine ⟨_, c, rfl, h1, h2, fun hne => ?_⟩
          obtain ⟨b, off, e, hb, hlt, hrow⟩ := hr0 hne
          cases e
          have hne' : y ++ z' ≠ [] := by simp [hne]
          obtain ⟨b', off', e, hb', hlt', hrow'⟩ := hr hne'
          subst e'
          subst e
          have hbb : b' = b := by
            have : (some b' : Option Nat) = some b := (hat.trans hl : _)
            exact Option.some.inj this
          subst hbb
          have hoff' : off' = 0 := by
            rcases ho.zero with ⟨e, _⟩ | ⟨g, e, _⟩
            · cases e
            · cases e; rfl
          refine ⟨b', off, rfl, hb, hlt', ?_⟩
          have hoff : off = 0 := by
            obtain ⟨A1, n1, c1, e1, h1 | ⟨g1, h1⟩⟩ := h.head
            · cases e1; cases h1
            · cases e1; cases h1; rfl
          subst hoff hoff'
          have := (hrow'.take y.length)
          rw [List.take_left] at this
          exact this.mono (fun b hb => by rcases hb with hf | hb; exact hf.elim; exact hb)
      · exact h.old.other hg (fun b' hb' _ he => by have := h.lt0 b' hb'; rw [hl] at he; have := Option.some.inj he; omega)
    · exact h.old.other hg0 (by simp)
  · rcases h.lies with hl | ⟨b, hl, hb⟩
    · exact h.grown.trans (hl ▸ hg)
    · exact grownBy_later h.grown hg (fun k hk => by rw [hl] at hk; have := Option.some.inj hk; omega)
  · rcases hat with hat | ⟨hat, _⟩
    · rw [hat]; exact h.lies
    · exact .inr ⟨_, hat, h.grown.size⟩
end Go.Eg
namespace Go.Eg
open Go.RowKit

section
variable {P : Program} {ops : Array Oper} {rest : List Oper} {a : Act} {Q : Exit → Act → World → Prop} {α : Type} {t : Ty α}
/-- append(gv, nd): a row that grows. -/
theorem wp_append_grow {w0 W : World} {dst : Option Tmp} {s x : Operand} {T ty : TypeId} {pos : String} {after : Array Edge} (e base bytes : Nat) (he : Elem P T e t.sz bytes) (u gv : Value) (y z : List α) (G : Grow t e base w0 u y z W gv) (hs : a.eval s = gv)
    (nd : α) (ad : Addr) (c : Nat) (hx : a.eval x = .slice (some ad) 1 c) (cs : List Value) (hrel : ∀ B w, t.rel B w nd cs) (hcells : ∀ j v, cs[j]? = some v → W.cell? (ad.add j) = some v)
    (hlen : ((y ++ z).length + 1) * bytes ≤ 140737488355328) (h0 : 0 < bytes) (hbase : base ≤ W.heap.size)
    (h : ∀ v' w', Grow t e base w0 u y (z ++ [nd]) w' v' → wpList P ops Q rest (a.put dst v') w') :
    wpList P ops Q (⟨dst, .call { callee := .builtin .append, args := #[s, x], argTypes := #[T, T] }, ty, pos, after, none⟩ :: rest) a W := by
  refine wpList_plain rfl fun K hK => ?_
  obtain ⟨i, z0, hu, hi, hz, hsz, hby, hzs, hsz0⟩ := id he
  obtain ⟨cells, ho, hels⟩ := G.own
  have hlcs : cs.length = t.sz := t.len (hrel No W)
  have hm : (y ++ z).length + 1 ≤ maxLen := by
    have := Nat.le_trans (Nat.le_mul_of_pos_right _ h0) hlen
    simp only [maxLen]; omega
  obtain ⟨v', w', hr, ho', hg, _, hat⟩ := run_append_own_at (P := P) W base T ty e i z0 t.sz bytes hu hi hz hsz hby hzs hsz0 gv (y ++ z).length cells ho ad 1 c cs (by omega) hcells (t.one (hrel No W)) hm hlen hbase
  have hap := append_apart he ho (by decide) (by omega) hcells (t.one (hrel No W)) hm hlen hr
  unfold Oper.wp execOp
  simp only [resolve, invoke, builtin, Sem.run_bind, Sem.run_pure, Result.andThen_ok, List.map_toArray, List.map_cons, List.map_nil, hs, hx, hr]
  refine hK _ _ (h v' w' (G.step ⟨cells ++ cs, ?_, fun k q hq => ?_⟩ hg hap))
  · rw [show (y ++ (z ++ [nd])).length = (y ++ z).length + 1 by simp; omega]
    exact ho'
  · rw [← List.append_assoc, List.getElem?_append] at hq
    split at hq
    · obtain ⟨cs', hr', hc'⟩ := hels k q hq
      refine ⟨cs', t.mono (fun b hb => hb.1.elim) (t.keep (fun b hb => hb.1.elim) hr'), fun j v hv => ?_⟩
      have := hc' j v hv
      rw [List.getElem?_append_left (List.getElem?_eq_some_iff.1 this).1]
      exact this
    · rename_i hk
      have hk0 : k - (y ++ z).length = 0 := by have := (List.getElem?_eq_some_iff.1 hq).1; simp only [List.length_singleton] at this; omega
      rw [hk0] at hq
      cases hq
      have hke : k = (y ++ z).length := by omega
      refine ⟨cs, hrel _ _, fun j v hv => ?_⟩
      rw [List.getElem?_append_right (by rw [ho.1, hke]; omega), ho.1, hke, show (y ++ z).length * t.sz + j - (y ++ z).length * t.sz = j by omega]
      exact hv
end

/-- Blocks that neither the list nor a row yet to come lies in. -/
def Free (v : Value) (vs : List Value) (i : Nat) (b : Nat) : Prop := v.ownBlock ≠ some b ∧ ∀ j u, i ≤ j → vs[j]? = some u → u.ownBlock ≠ some b
theorem Free.succ {v : Value} {vs : List Value} {i b : Nat} (h : Free v vs i b) : Free v vs (i + 1) b := ⟨h.1, fun j u hj => h.2 j u (by omega)⟩
/-- The lists before i are grown, the others are as they were. -/
structure AP {α : Type} (t : Ty α) (e1 e base : Nat) (yss : List (List α)) (Z : Nat → List α) (v : Value) (vs : List Value) (i : Nat) (w : World) (gv : Value) (Gs : List (List α)) : Prop where
  row : w.ownsRow base e1 1 v yss.length vs
  dis : ∀ (i j : Nat) (u u' : Value), i ≠ j → vs[i]? = some u → vs[j]? = some u' → ∀ k, u.ownBlock = some k → u'.ownBlock ≠ some k
  nev : ∀ (j : Nat) (u : Value), vs[j]? = some u → ∀ k, u.ownBlock = some k → v.ownBlock ≠ some k
  pend : ∀ (j : Nat) (y : List α) (u : Value), i ≤ j → yss[j]? = some y → vs[j]? = some u → Own t e base No w y u
  done : ∀ (j : Nat) (y : List α) (u : Value), j < i → yss[j]? = some y → vs[j]? = some u → SlP t (fun b => Free v vs i b ∧ gv.ownBlock ≠ some b) w y u
  len : Gs.length = i
  grown : ∀ (j : Nat) (y : List α), j < i → yss[j]? = some y → Gs[j]? = some (y ++ Z j)
  gr : Own (Ty.slice t) e1 base (Free v vs i) w Gs gv
  gd : ∀ k, gv.ownBlock = some k → Free v vs i k
variable {α : Type} {t : Ty α} {e1 e base : Nat} {yss : List (List α)} {Z : Nat → List α} {v : Value} {vs : List Value} {i : Nat} {w w1 : World} {gv : Value} {Gs : List (List α)}
theorem AP.start (h : Own2 t e1 e base w yss v) : ∃ vs, AP t e1 e base yss Z v vs 0 w (.slice none 0 0) [] := by
  obtain ⟨vs, hrow, hel, hd⟩ := h
  refine ⟨vs, hrow, hd, fun j u hu k hk => ?_, fun j y u _ hy hu => ?_, fun j y u hj => absurd hj (by omega), rfl, fun j y hj => absurd hj (by omega), Own.nil _ _ _ _ _, by simp [Value.ownBlock]⟩
  · have hj : j < yss.length := by have := (List.getElem?_eq_some_iff.1 hu).1; rw [hrow.1] at this; omega
    obtain ⟨u', hu', _, hne⟩ := hel j _ (List.getElem?_eq_getElem hj)
    rw [hu] at hu'
    cases hu'
    exact hne k hk
  · obtain ⟨u', hu', ho, _⟩ := hel j y hy
    rw [hu] at hu'
    cases hu'
    exact ho
/-- The i-th list: where it is told, and that it is one's own. -/
theorem AP.at (h : AP t e1 e base yss Z v vs i w gv Gs) {y : List α} (hy : yss[i]? = some y) : ∃ g c u, v = .slice (some ⟨g, 0, none⟩) yss.length c ∧ g < w.heap.size ∧ w.cell? ⟨g, i, none⟩ = some u ∧ vs[i]? = some u ∧ Own t e base No w y u ∧ v.ownBlock = some g := by
  have hil := (List.getElem?_eq_some_iff.1 hy).1
  have hvl : i < vs.length := by rw [h.row.1]; omega
  rcases h.row.2 with ⟨rfl, h0⟩ | ⟨g, cap, cur, hv, hb, hh, h1, h2, h3, h4⟩
  · omega
  · have hadd : (⟨g, 0, none⟩ : Addr).add i = ⟨g, i, none⟩ := by
      unfold Addr.add
      split
      · rename_i h; rw [h]
      · simp
    have hu : vs[i]? = some vs[i] := List.getElem?_eq_getElem hvl
    have hc := h.row.cells (g := g) (by rw [hv]; rfl) i _ hu
    rw [hadd] at hc
    exact ⟨g, cap, vs[i], hv, (h.row.lt g (by rw [hv]; rfl)).2, hc, hu, h.pend i y _ (Nat.le_refl _) hy hu, by rw [hv]; rfl⟩
/-- After the i-th list has grown: the list of those that have grown is still one's own. -/
theorem AP.ready (h : AP t e1 e base yss Z v vs i w gv Gs) {y z : List α} {u G : Value} {w' : World} (hu : vs[i]? = some u) (g : Grow t e base w u y z w' G) : Own (Ty.slice t) e1 base (Free v vs (i + 1)) w' Gs gv :=
  (h.gr.other g.grown (fun k hk he => (h.gd k hk).2 i u (Nat.le_refl _) hu he) (fun b hb _ he => hb.2 i u (Nat.le_refl _) hu he)).mono (fun _ hb => hb.succ)
/-- Where the grown row lies. -/
theorem AP.lies (h : AP t e1 e base yss Z v vs i w gv Gs) {y z : List α} {u G : Value} {w' : World} (hu : vs[i]? = some u) (hy : yss[i]? = some y) (g : Grow t e base w u y z w' G) {b : Nat} (hb : G.ownBlock = some b ∨ w.heap.size ≤ b) : Free v vs (i + 1) b ∧ gv.ownBlock ≠ some b := by
  have new : w.heap.size ≤ b → Free v vs (i + 1) b ∧ gv.ownBlock ≠ some b := fun hge => by
    refine ⟨⟨fun hv => ?_, fun j u' hj hu' hk => ?_⟩, fun hk => ?_⟩
    · have := (h.row.lt b hv).2; omega
    · have hjl : j < yss.length := by have := (List.getElem?_eq_some_iff.1 hu').1; rw [h.row.1] at this; omega
      have := ((h.pend j _ u' (by omega) (List.getElem?_eq_getElem hjl) hu').block b hk).2
      omega
    · have := (h.gr.block b hk).2; omega
  rcases hb with hb | hb
  · rcases g.lies with hl | ⟨b', hl, hb'⟩
    · rw [hl] at hb
      exact ⟨⟨h.nev i u hu b hb, fun j u' hj hu' => h.dis i j u u' (by omega) hu hu' b hb⟩, fun hk => (h.gd b hk).2 i u (Nat.le_refl _) hu hb⟩
    · rw [hl] at hb
      cases hb
      exact new hb'
  · exact new hb
theorem AP.step (h : AP t e1 e base yss Z v vs i w gv Gs) {y : List α} {u G : Value} {w' w1 w2 : World} {gv' : Value} (hu : vs[i]? = some u) (hy : yss[i]? = some y) (g : Grow t e base w u y (Z i) w' G) (he : Ext w' w1)
    (ho : Own (Ty.slice t) e1 base (Free v vs (i + 1)) w2 (Gs ++ [y ++ Z i]) gv') (hg : w1.grownBy w2 gv.ownBlock) (hat : gv'.ownBlock = gv.ownBlock ∨ gv'.ownBlock = some w1.heap.size) : AP t e1 e base yss Z v vs (i + 1) w2 gv' (Gs ++ [y ++ Z i]) := by
  have g1 := g.ext he
  have hsz : w.heap.size ≤ w1.heap.size := g1.grown.size
  have hgvu : ∀ k, gv.ownBlock = some k → u.ownBlock ≠ some k := fun k hk => (h.gd k hk).2 i u (Nat.le_refl _) hu
  have up : ∀ {q : List α} {x : Value} {F : Nat → Prop}, SlP t F w1 q x → (∀ b, F b → Free v vs (i + 1) b ∧ gv.ownBlock ≠ some b) → SlP t (fun b => Free v vs (i + 1) b ∧ gv'.ownBlock ≠ some b) w2 q x := fun hs hF => by
    have hl := hs.low
    refine (hl.other hg (fun b hb _ => fun e => (hF b hb.1).2 e)).mono (fun b hb => ⟨(hF b hb.1).1, ?_⟩)
    rcases hat with hat | hat <;> rw [hat]
    · exact (hF b hb.1).2
    · exact fun e => by have := Option.some.inj e; omega
  refine ⟨?_, h.dis, h.nev, fun j y' u' hj hy' hu' => ?_, fun j y' u' hj hy' hu' => ?_, by rw [List.length_append, h.len]; rfl, fun j y' hj hy' => ?_, ho, fun k hk => ?_⟩
  · refine (h.row.kept g1.grown ?_).kept hg ?_
    · cases hv : v.ownBlock with
      | none => exact .inl rfl
      | some k => exact .inr fun e => h.nev i u hu k e.symm hv
    · cases hv : v.ownBlock with
      | none => exact .inl rfl
      | some k => exact .inr fun e => (h.gd k e.symm).1 hv
  · exact ((h.pend j y' u' (by omega) hy' hu').other g1.grown (fun k hk he => h.dis i j u u' (by omega) hu hu' k he hk) (fun _ h => h.elim)).other hg (fun k hk he => (h.gd k he).2 j u' (by omega) hu' hk) (fun _ h => h.elim)
  · by_cases hji : j < i
    · refine up ((h.done j y' u' hji hy' hu').other g1.grown (fun b hb _ he => hb.1.2 i u (Nat.le_refl _) hu he)) (fun b hb => ⟨hb.1.succ, hb.2⟩)
    · have : j = i := by omega
      subst this
      rw [hy] at hy'
      rw [hu] at hu'
      cases hy'
      cases hu'
      exact up g1.old (fun b hb => ⟨⟨h.nev j u hu b hb, fun j' u' hj' hu' => h.dis j j' u u' (by omega) hu hu' b hb⟩, fun hk => hgvu b hk hb⟩)
  · by_cases hji : j < i
    · rw [List.getElem?_append_left (by rw [h.len]; exact hji)]
      exact h.grown j y' hji hy'
    · have : j = i := by omega
      subst this
      rw [hy] at hy'
      cases hy'
      rw [List.getElem?_append_right (by rw [h.len]; omega), h.len, Nat.sub_self]
      rfl
  · rcases hat with hat | hat
    · rw [hat] at hk
      exact (h.gd k hk).succ
    · rw [hat] at hk
      cases hk
      exact (h.lies hu hy g (.inr hsz)).1
end Go.Eg
namespace Go.Proofs.YtdeppnamhdbbhaaDoor
open Go.RowKit Go.Eg

theorem elStr : Elem Tryd.prog 41 9 1 16 := Elem.mk (z := .string ⟨#[]⟩) Tryd.underlying41 (by kernel_rfl) rfl (by decide)
theorem own_str1 (W : World) (s : ByteArray) : Own Ty.str 9 W.heap.size No (W.alloc (.cells #[.string s] 9)) [s] (.slice (some ⟨W.heap.size, 0, none⟩) 1 1) := by
  have h := Own.made (t := Ty.str) (w := W) (e := 9) (base := W.heap.size) (B := No) (m := 1) #[.string s] s rfl (fun _ _ => rfl) (Nat.le_refl _) (by decide)
  have e : madeCells #[Value.string s] (1 * Ty.str.sz) = #[.string s] := by
    simp [madeCells, Ty.str, Ty.flat]
    exact ⟨0, rfl, rfl⟩
  rw [e] at h
  simpa using h
theorem cell_new1 (w : World) (u : Value) (e : TypeId) : ∀ j v, [u][j]? = some v → (w.alloc (.cells #[u] e)).cell? ((⟨w.heap.size, 0, none⟩ : Addr).add j) = some v := by
  intro j v h
  match j, h with
  | 0, h => cases h; rw [add_addr]; simp
  | j + 1, h => simp at h
theorem wordsE_ok {k n : Nat} {t : List Nd} (h1 : errW t = 0) (hk1 : 1 ≤ k) (hk8 : k ≤ 8) (hn : n ≤ 511) : wordsE (k : Int) t (n : Int) = if 1000 < (allTo k n).length then 6 else 0 := by
  unfold wordsE
  rw [if_neg (by omega), if_neg (by omega), if_neg (by omega), Int.toNat_natCast, Int.toNat_natCast]
theorem rd_str {w : World} {xs : List ByteArray} {A : Option Addr} {n c : Nat} (h : Rd Ty.str w xs (.slice A n c)) {i : Nat} {x : ByteArray} (hx : xs[i]? = some x) : ∃ b off, A = some ⟨b, off, none⟩ ∧ b < w.heap.size ∧ w.cell? ⟨b, off + i, none⟩ = some (.string x) := by
  obtain ⟨b, off, cs, e, hb, rfl, ha⟩ := h.at hx
  have := ha 0 _ rfl
  exact ⟨b, off, e, hb, by simpa [Ty.str, Ty.flat] using this⟩
theorem enc_chr (l : Nat) (h : l < 8) : Utf8.encode (97 + (l : Int)) = chrB l := by
  match l, h with
  | 0, _ | 1, _ | 2, _ | 3, _ | 4, _ | 5, _ | 6, _ | 7, _ => rfl
set_option maxHeartbeats 16000000 in
set_option maxRecDepth 100000 in
theorem Words_calls (k : Int) (t : List Nd) (v : Value) (n : Int) (w : World) (hr : Rd tyNd w t v) (hT : Tab w) :
    Calls Tryd.prog 16 #[.int .i64 k, v, .int .i64 n] w fun e w' => ∃ v', e = .returned (.tuple #[v', .int .i64 (wordsE k t n)]) ∧ Rd Ty.str w' (wordsL k t n) v' ∧ Ext w w' := by
  have HC := Lib.hid (check_calls t v w hr)
  by_cases h1 : errW t = 0
  · by_cases h2 : 1 ≤ k ∧ k ≤ 8
    · by_cases h3 : 0 ≤ n ∧ n ≤ 511
      · obtain ⟨kk, rfl⟩ := Int.eq_ofNat_of_zero_le (show 0 ≤ k by omega)
        obtain ⟨nn, rfl⟩ := Int.eq_ofNat_of_zero_le h3.1
        have hk1 : 1 ≤ kk := by omega
        have hk8 : kk ≤ 8 := by omega
        have hn5 : nn ≤ 511 := by omega
        have HE := Lib.hid (wordsE_ok h1 hk1 hk8 hn5)
        have HL : Hid (wordsL (kk : Int) t (nn : Int) = if wordsE (kk : Int) t (nn : Int) = 0 then (allTo kk nn).filter (memR t) else []) := Lib.hid (by unfold wordsL; rw [Int.toNat_natCast, Int.toNat_natCast])
        have HMW := Lib.hid (fun (s : ByteArray) (h : wordE s = 0) => mem_word h1 h)
        obtain ⟨hl4, hok⟩ := errW_ok h1
        obtain ⟨hwf, hfl⟩ := tr_of hok
        have HR := Lib.hid (fun s (hs : s.size < 512) W' (hE : Ext w W') => run_calls (tr t) hwf t hfl.symm hl4 v s hs W' (hr.ext hE) (hT.ext hE))
        rw [h1] at HC
        have d1 : decide ((kk : Int) < 1) = false := decide_eq_false (by omega)
        have d2 : decide ((8 : Int) < (kk : Int)) = false := decide_eq_false (by omega)
        have d3 : decide ((nn : Int) < 0) = false := decide_eq_false (by omega)
        have d4 : decide ((511 : Int) < (nn : Int)) = false := decide_eq_false (by omega)
        clear h1 h2 h3 hok hfl hwf hr hT hl4
        go_enter Tryd.func16, Tryd.ntmps16
        go_wp2_with ((go_at_call 23; (with_reducible refine (HC.out).mono ?_); rintro e w1 ⟨rfl, hx1⟩))
        have h0 := own_str1 w1 ⟨#[]⟩
        go_loopw [9, 10, 11, 12, 14, 15] (fun v9 v10 v11 _ _ _ wr => ∃ m : Nat, v11 = .int .i64 m ∧ m ≤ nn ∧ v10 = .int .i64 (fewTo kk m).length ∧ Hid (Own Ty.str 9 w1.heap.size No wr (allTo kk m) v9) ∧ (allTo kk m).length ≤ 1000 ∧ Ext w1 wr) (fun _ _ v11 _ _ _ _ => nn - (intOf v11).toNat)
        case atStart => exact ⟨0, rfl, by omega, rfl, Lib.hid h0, by simp [allTo, lev], (Ext.refl _).alloc _⟩
        case round =>
          clear h0
          obtain ⟨m, rfl, hm, rfl, HO, hle, he⟩ := hrel
          have hflen : (fewTo kk m).length + (lev kk m).length = (allTo kk m).length := by rw [← fewTo_all, fewTo, List.length_append]
          have hlpos : 1 ≤ (lev kk m).length := by rw [lev_len]; exact Nat.one_le_pow _ _ hk1
          obtain ⟨A9, c9, rfl, hl9, hm9⟩ := HO.out.shape
          unfold maxLen at hm9
          obtain ⟨g, rfl, hgb, hgl⟩ : ∃ g, A9 = some ⟨g, 0, none⟩ ∧ w1.heap.size ≤ g ∧ g < wr.heap.size := by
            rcases HO.out.zero with ⟨_, e, _⟩ | ⟨g, e, h1, h2, _⟩
            · omega
            · exact ⟨g, e, h1, h2⟩
          by_cases hlt : m < nn
          · have q1 : ¬ ((c9 : Int) < ((allTo kk m).length : Int)) := by omega
            have q2 : ¬ (((allTo kk m).length : Int) < ((fewTo kk m).length : Int)) := by omega
            have q3 : ¬ (c9 = (fewTo kk m).length) := by omega
            have q4 : (fewTo kk m).length ≤ (allTo kk m).length := by omega
            have q5 : (allTo kk m).length - (fewTo kk m).length = (lev kk m).length := by omega
            have hltd : decide ((m : Int) < (nn : Int)) = true := decide_eq_true (by omega)
            go_wp2_with fail
            go_loopw [9, 14, 15, 49] (fun v9 _ _ v49 wq => ∃ a : Nat, v49 = .int .i64 a ∧ a ≤ (lev kk m).length ∧ Hid (Grow Ty.str 9 w1.heap.size wr (.slice (some ⟨g, 0, none⟩) (allTo kk m).length c9) (allTo kk m) (part kk (lev kk m) a 0) wq v9) ∧ (allTo kk m).length + (part kk (lev kk m) a 0).length ≤ 1000 ∧ Ext w1 wq) (fun _ _ _ v49 _ => (lev kk m).length - (intOf v49).toNat)
            case atStart => exact ⟨0, rfl, by omega, Lib.hid (by rw [part_zero]; exact Grow.start HO.out), by rw [part_zero]; simpa using hle, he⟩
            case round =>
              obtain ⟨a, rfl, ha, HG, hpl, he2⟩ := hrel
              by_cases hla : a < (lev kk m).length
              · have hyx : (allTo kk m)[(fewTo kk m).length + a]? = some (nthW (lev kk m) a) := by
                  rw [← fewTo_all, fewTo, List.getElem?_append_right (by omega), Nat.add_sub_cancel_left]
                  exact nthW_get hla
                obtain ⟨b2, off2, e2, hb2, hcell⟩ := rd_str HG.out.old.any hyx
                cases e2
                rw [Nat.zero_add] at hcell
                have hlad : decide ((a : Int) < ((lev kk m).length : Int)) = true := decide_eq_true (by omega)
                go_wp2_with fail
                go_loopw [9, 15, 54] (fun v9 _ v54 wq => ∃ l : Nat, v54 = .int .i64 l ∧ l ≤ kk ∧ Hid (Grow Ty.str 9 w1.heap.size _ (.slice (some ⟨g, 0, none⟩) (allTo kk m).length c9) (allTo kk m) (part kk (lev kk m) a l) wq v9) ∧ (allTo kk m).length + (part kk (lev kk m) a l).length ≤ 1000 ∧ Ext w1 wq) (fun _ _ v54 _ => kk - (intOf v54).toNat)
                case atStart => exact ⟨0, rfl, by omega, HG, hpl, he2⟩
                case round =>
                  clear hcell hb2 HG hpl
                  obtain ⟨l, rfl, hl, HG, hpl, he3⟩ := hrel
                  obtain ⟨A8, c8, rfl, hl8, hm8⟩ := HG.out.own.shape
                  have hyz : (allTo kk m ++ part kk (lev kk m) a l).length = (allTo kk m).length + (part kk (lev kk m) a l).length := List.length_append
                  generalize hNl : (allTo kk m ++ part kk (lev kk m) a l).length = NL at *
                  replace hNl := Lib.hid hNl
                  by_cases hll : l < kk
                  · have hlld : decide ((l : Int) < (kk : Int)) = true := decide_eq_true (by omega)
                    by_cases hfull : NL = 1000
                    · have hf1 : ((NL : Int) == 1000) = true := beq_iff_eq.2 (by omega)
                      have hbigger : 1000 < (allTo kk nn).length := by
                        have h8 := part_lt hla hll
                        have h9 := allTo_mono kk (show m + 1 ≤ nn by omega)
                        rw [allTo, List.length_append, lev] at h9
                        omega
                      have HE6 : Hid (wordsE (kk : Int) t (nn : Int) = 6) := Lib.hid (HE.out.trans (if_pos hbigger))
                      have HL6 : Hid (wordsL (kk : Int) t (nn : Int) = []) := Lib.hid (HL.out.trans (if_neg (by rw [HE6.out]; decide)))
                      clear hbigger
                      go_wp2_with fail
                      go_ret2
                      rw [HE6.out, HL6.out]
                      exact ⟨_, rfl, Rd.nil _ _, hx1.trans he3⟩
                    · have hf1 : ((NL : Int) == 1000) = false := beq_eq_false_iff_ne.2 (by omega)
                      have henc := enc_chr l (by omega)
                      have hcs := chr_size l
                      have hws := lev_size kk m _ (nthW_mem hla)
                      have q1 : (nthW (lev kk m) a).size + (chrB l).size ≤ 9223372036854775807 := by omega
                      have q2 : ¬ (9223372036854775807 < (nthW (lev kk m) a).size + (chrB l).size) := by omega
                      have q3 : ¬ (9223372036854775807 < ((nthW (lev kk m) a).size : Int) + ((chrB l).size : Int)) := by omega
                      have HPS := Lib.hid (part_step kk (lev kk m) a l)
                      have hr97 : (97 : Int) ≤ 97 + (l : Int) ∧ 97 + (l : Int) ≤ 104 := by omega
                      generalize hrr : (97 : Int) + (l : Int) = r at *
                      have hw97 : IntKind.i32.wrap r = r := by rw [IntKind.wrap_i32]; omega
                      have hw98 : IntKind.i64.wrap r = r := IntWalk.i64_in _ (by omega)
                      clear hcs hws
                      generalize chrB l = ch at *
                      generalize nthW (lev kk m) a = wd0 at *
                      go_wp2_with ((with_reducible refine gate_bi .append #[.tmp 60, .tmp 67] ?_); refine wp_append_grow (t := Ty.str) 9 w1.heap.size 16 elStr _ (.slice A8 NL c8) (allTo kk m) (part kk (lev kk m) a l) (HG.out.ext ((Ext.refl _).alloc _)) rfl (wd0 ++ ch) ⟨wr.heap.size, 0, none⟩ 1 rfl [.string (wd0 ++ ch)] (fun _ _ => rfl) (cell_new1 _ _ _) (by rw [hNl.out]; omega) (by decide) ((he3.alloc _).le) ?_; intro v9 w9 hG9)
                      go_roundw
                      case rel => exact ⟨l + 1, by go_num, by omega, Lib.hid (by rw [HPS.out]; exact hG9), by rw [HPS.out, List.length_append, List.length_singleton]; omega, he.grown hG9.grown (fun k hk => by cases hk; exact hgb)⟩
                      case measure => simp [intOf]; omega
                  · obtain rfl : l = kk := by omega
                    have HPN := Lib.hid (part_next (k := l) hla)
                    go_wp2_with fail
                    go_roundw
                    case rel => exact ⟨a + 1, by go_num, by omega, Lib.hid (by rw [← HPN.out]; exact HG.out), by rw [← HPN.out]; exact hpl, he3⟩
                    case measure => simp [intOf]; omega
              · obtain rfl : a = (lev kk m).length := by omega
                have HPA := Lib.hid (part_all kk (lev kk m))
                go_wp2_with fail
                go_roundw
                case rel => exact ⟨m + 1, by go_num, by omega, val_int (by rw [fewTo_all]), Lib.hid (by have h9 := HG.out.own; rw [HPA.out] at h9; exact h9), by rw [HPA.out] at hpl; rw [allTo, List.length_append]; exact hpl, he2⟩
                case measure => simp [intOf]; omega
          · obtain rfl : m = nn := by omega
            have hE0 : wordsE (kk : Int) t (m : Int) = 0 := HE.out.trans (if_neg (by omega))
            have hL0 : wordsL (kk : Int) t (m : Int) = (allTo kk m).filter (memR t) := HL.out.trans (if_pos hE0)
            have HE0 := Lib.hid hE0
            have HL0 := Lib.hid hL0
            have HWS := Lib.hid (fun w0 (hw : w0 ∈ allTo kk m) => (let ⟨i, hi, h⟩ := allTo_mem hw; ⟨by rw [lev_size kk i w0 h]; omega, lev_word hk8 (by omega) h⟩ : w0.size < 512 ∧ wordE w0 = 0))
            have HRd : Hid (SlP Ty.str (fun b => b = g) wr (allTo kk m) (.slice (some ⟨g, 0, none⟩) (allTo kk m).length c9)) := Lib.hid (HO.out.sl.mono (fun b hb => hb.elim False.elim (fun e => (Option.some.inj e).symm)))
            have hlen8 : (allTo kk m).length ≤ 1000 := hle
            generalize allTo kk m = LW at *
            clear hE0 hL0 HE HL HO hle hflen hlpos hlt
            go_wp2_with fail
            go_loopw [16, 18, 74] (fun v16 _ v74 wq => ∃ a : Nat, v74 = .int .i64 a ∧ a ≤ LW.length ∧ Hid (SlP Ty.str (fun b => b = g) wq LW (.slice (some ⟨g, 0, none⟩) LW.length c9)) ∧ Hid (Own Ty.str 9 wr.heap.size No wq ((LW.take a).filter (memR t)) v16) ∧ Ext wr wq) (fun _ _ v74 _ => LW.length - (intOf v74).toNat)
            case atStart => exact ⟨0, rfl, by omega, HRd, Lib.hid (Own.nil _ _ _ _ _), Ext.refl _⟩
            case round =>
              clear HRd
              obtain ⟨a, rfl, ha, HRd, HOut, he2⟩ := hrel
              have Ew := (hx1.trans he).trans he2
              by_cases hla : a < LW.length
              · have hmem := nthW_mem hla
                obtain ⟨hs5, hsw⟩ := HWS.out _ hmem
                obtain ⟨b2, off2, e2, hb2, hcell⟩ := rd_str HRd.out.any (nthW_get hla)
                cases e2
                rw [Nat.zero_add] at hcell
                have htk : LW.take (a + 1) = LW.take a ++ [nthW LW a] := by rw [List.take_add_one, nthW_get hla]; rfl
                have HMt := Lib.hid (HMW.out _ hsw)
                have HRun := Lib.hid (HR.out (nthW LW a) hs5)
                have hm0 : 0 < (rowsL (nthW LW a) (tr t)).length := by rw [rowsL_len]; omega
                have HA := Lib.hid (atS_get hm0)
                rw [atS_rows] at HA
                have HH := Lib.hid (Has_calls (rowB (bt (nthW LW a)) (nthW LW a).size (tr t) 0) ((nthW LW a).size : Int))
                have i1 : inSet (rowB (bt (nthW LW a)) (nthW LW a).size (tr t) 0) ((nthW LW a).size : Int) = memR t (nthW LW a) := by
                  rw [HMt.out, ← mem_row]
                  unfold inSet
                  rw [Int.toNat_natCast, decide_eq_true (by omega), decide_eq_true (by omega)]
                  rfl
                rw [i1] at HH
                have hlad : decide ((a : Int) < (LW.length : Int)) = true := decide_eq_true (by omega)
                have HTk := Lib.hid htk
                have HFl : Hid (((LW.take a).filter (memR t)).length ≤ 1000) := Lib.hid (by have := List.length_filter_le (memR t) (LW.take a); rw [List.length_take] at this; omega)
                clear i1 htk hmem hs5 hsw
                generalize rowB (bt (nthW LW a)) (nthW LW a).size (tr t) 0 = rA at *
                generalize rowsL (nthW LW a) (tr t) = rL at *
                generalize hs0 : nthW LW a = s0 at *
                cases hmm : memR t s0 with
                | false =>
                  rw [hmm] at HH
                  have HF : Hid ((LW.take (a + 1)).filter (memR t) = (LW.take a).filter (memR t)) := Lib.hid (by rw [HTk.out, List.filter_append]; simp [hmm])
                  clear hmm
                  go_wp2_with (first
                    | ((go_at_call 25; (with_reducible refine (HRun.out _ Ew).mono ?_); rintro e w2 ⟨v2, rfl, hr2, hx2⟩); obtain ⟨A2, c2, rfl, hl2, _⟩ := hr2.shape; obtain ⟨b3, o3, rfl, hb3, f0, f1, f2, f3, f4, f5, f6, f7⟩ := rd_set hr2 HA.out; simp only [Nat.zero_mul, Nat.add_zero] at f0 f1 f2 f3 f4 f5 f6 f7)
                    | ((go_at_call 14; (with_reducible refine (HH.out _).mono ?_); rintro e w3 ⟨rfl, hx3⟩)))
                  have he3 := hx2.trans hx3
                  go_roundw
                  case rel => exact ⟨a + 1, by go_num, by omega, Lib.hid (HRd.out.extB he3), Lib.hid (by rw [HF.out]; exact HOut.out.ext he3), he2.trans he3⟩
                  case measure => simp [intOf]; omega
                | true =>
                  rw [hmm] at HH
                  have HF : Hid ((LW.take (a + 1)).filter (memR t) = (LW.take a).filter (memR t) ++ [s0]) := Lib.hid (by rw [HTk.out, List.filter_append]; simp [hmm])
                  clear hmm
                  go_wp2_with (first
                    | ((go_at_call 25; (with_reducible refine (HRun.out _ Ew).mono ?_); rintro e w2 ⟨v2, rfl, hr2, hx2⟩); obtain ⟨A2, c2, rfl, hl2, _⟩ := hr2.shape; obtain ⟨b3, o3, rfl, hb3, f0, f1, f2, f3, f4, f5, f6, f7⟩ := rd_set hr2 HA.out; simp only [Nat.zero_mul, Nat.add_zero] at f0 f1 f2 f3 f4 f5 f6 f7)
                    | ((go_at_call 14; (with_reducible refine (HH.out _).mono ?_); rintro e w3 ⟨rfl, hx3⟩); have he3 := hx2.trans hx3)
                    | ((with_reducible refine gate_bi .append #[.tmp 86, .tmp 88] ?_); refine wp_append (t := Ty.str) 9 _ 16 elStr No _ ((LW.take a).filter (memR t)) rfl (HOut.out.ext (he3.alloc _)) _ [s0] rfl Any (SlP.one (t := Ty.str) s0 _ (fun _ _ => rfl)) (fun _ _ h => h) (by have := HFl.out; simp only [List.length_singleton]; omega) (by decide) ((he2.trans (he3.alloc _)).le) ?_; intro v9 w9 ho9 hg9 hat9))
                  go_roundw
                  case rel =>
                    have he4 := he3.alloc (.cells #[.string s0] 9)
                    exact ⟨a + 1, by go_num, by omega, Lib.hid ((HRd.out.extB he4).other hg9 (fun b hb _ e => by subst hb; have := HOut.out.lo b e; omega)), Lib.hid (by rw [HF.out]; exact ho9), (he2.trans he4).grown hg9 (fun k hk => HOut.out.lo k hk)⟩
                  case measure => simp [intOf]; omega
              · obtain rfl : a = LW.length := by omega
                go_wp2_with fail
                go_ret2
                rw [HE0.out, HL0.out]
                rw [List.take_length] at HOut
                exact ⟨_, rfl, HOut.out.rd, Ew⟩
      · have hE : wordsE k t n = 11 := by unfold wordsE; rw [if_neg (by omega), if_neg (by omega), if_pos h3]
        have hL : wordsL k t n = [] := if_neg (by rw [hE]; decide)
        rw [hE, hL]
        rw [h1] at HC
        have d1 : decide (k < 1) = false := decide_eq_false (by omega)
        have d2 : decide (8 < k) = false := decide_eq_false (by omega)
        by_cases h4 : n < 0
        · have d3 : decide (n < 0) = true := decide_eq_true h4
          clear hE hL h1 h2 h3 h4 hr hT
          go_enter Tryd.func16, Tryd.ntmps16
          go_wp2_with ((go_at_call 23; (with_reducible refine (HC.out).mono ?_); rintro e w1 ⟨rfl, hx1⟩))
          go_ret2
          exact ⟨_, rfl, Rd.nil _ _, hx1⟩
        · have d3 : decide (n < 0) = false := decide_eq_false h4
          have d4 : decide (511 < n) = true := decide_eq_true (by omega)
          clear hE hL h1 h2 h3 h4 hr hT
          go_enter Tryd.func16, Tryd.ntmps16
          go_wp2_with ((go_at_call 23; (with_reducible refine (HC.out).mono ?_); rintro e w1 ⟨rfl, hx1⟩))
          go_ret2
          exact ⟨_, rfl, Rd.nil _ _, hx1⟩
    · have hE : wordsE k t n = 20 := by unfold wordsE; rw [if_neg (by omega), if_pos h2]
      have hL : wordsL k t n = [] := if_neg (by rw [hE]; decide)
      rw [hE, hL]
      rw [h1] at HC
      by_cases h4 : k < 1
      · have d3 : decide (k < 1) = true := decide_eq_true h4
        clear hE hL h1 h2 h4 hr hT
        go_enter Tryd.func16, Tryd.ntmps16
        go_wp2_with ((go_at_call 23; (with_reducible refine (HC.out).mono ?_); rintro e w1 ⟨rfl, hx1⟩))
        go_ret2
        exact ⟨_, rfl, Rd.nil _ _, hx1⟩
      · have d3 : decide (k < 1) = false := decide_eq_false h4
        have d4 : decide (8 < k) = true := decide_eq_true (by omega)
        clear hE hL h1 h2 h4 hr hT
        go_enter Tryd.func16, Tryd.ntmps16
        go_wp2_with ((go_at_call 23; (with_reducible refine (HC.out).mono ?_); rintro e w1 ⟨rfl, hx1⟩))
        go_ret2
        exact ⟨_, rfl, Rd.nil _ _, hx1⟩
  · have hE : wordsE k t n = errW t := if_pos h1
    have hne : (errW t != 0) = true := bne_iff_ne.2 h1
    have hL : wordsL k t n = [] := if_neg (by rw [hE]; exact h1)
    rw [hE, hL]
    generalize errW t = ew at *
    clear hE hL h1 hr hT
    go_enter Tryd.func16, Tryd.ntmps16
    go_wp2_with ((go_at_call 23; (with_reducible refine (HC.out).mono ?_); rintro e w1 ⟨rfl, hx1⟩))
    go_ret2
    exact ⟨_, rfl, Rd.nil _ _, hx1⟩
end Go.Proofs.YtdeppnamhdbbhaaDoor
namespace Go.Proofs.YtdeppnamhdbbhaaDoor
open Go.RowKit Go.Eg

set_option maxHeartbeats 1000000 in
theorem rhas_calls (p : Nat → Bool) (x : Int) (h0 : 0 ≤ x) (h1 : x < 512) (w : World) : Calls Tryd.prog 73 #[Value.agg #[.int .u64 (wd (p) 0 : Nat), .int .u64 (wd (p) 1 : Nat), .int .u64 (wd (p) 2 : Nat), .int .u64 (wd (p) 3 : Nat), .int .u64 (wd (p) 4 : Nat), .int .u64 (wd (p) 5 : Nat), .int .u64 (wd (p) 6 : Nat), .int .u64 (wd (p) 7 : Nat)], .int .i64 x] w fun e w' => e = .returned (.bool (p x.toNat)) ∧ Ext w w' := by
  have harr := set_at p (x / 64).toNat (by omega)
  have HT := Lib.hid (test_one p x h0)
  go_enter Tryd.func73, Tryd.ntmps73
  go_wp2_with fail
  go_ret
  exact ⟨ret_bool HT.out, by (repeat (first | assumption | exact Ext.refl _ | apply Ext.alloc | apply Ext.drew | apply Ext.drewN | refine Ext.trans ?_ (by assumption)))⟩
set_option maxHeartbeats 2000000 in
set_option maxRecDepth 100000 in
theorem rjoin_calls (p q : Nat → Bool) (w : World) : Calls Tryd.prog 74 #[Value.agg #[.int .u64 (wd (p) 0 : Nat), .int .u64 (wd (p) 1 : Nat), .int .u64 (wd (p) 2 : Nat), .int .u64 (wd (p) 3 : Nat), .int .u64 (wd (p) 4 : Nat), .int .u64 (wd (p) 5 : Nat), .int .u64 (wd (p) 6 : Nat), .int .u64 (wd (p) 7 : Nat)], Value.agg #[.int .u64 (wd (q) 0 : Nat), .int .u64 (wd (q) 1 : Nat), .int .u64 (wd (q) 2 : Nat), .int .u64 (wd (q) 3 : Nat), .int .u64 (wd (q) 4 : Nat), .int .u64 (wd (q) 5 : Nat), .int .u64 (wd (q) 6 : Nat), .int .u64 (wd (q) 7 : Nat)]] w fun e w' => e = .returned (Value.agg #[.int .u64 (wd (orS p q) 0 : Nat), .int .u64 (wd (orS p q) 1 : Nat), .int .u64 (wd (orS p q) 2 : Nat), .int .u64 (wd (orS p q) 3 : Nat), .int .u64 (wd (orS p q) 4 : Nat), .int .u64 (wd (orS p q) 5 : Nat), .int .u64 (wd (orS p q) 6 : Nat), .int .u64 (wd (orS p q) 7 : Nat)]) ∧ Ext w w' := by
  obtain ⟨r, hr⟩ : ∃ r, r = orS p q := ⟨_, rfl⟩
  have HR := Lib.hid hr
  rw [← hr]
  clear hr
  go_enter Tryd.func74, Tryd.ntmps74
  go_wp2_with fail
  go_loopw [5] (fun v5 wr => ∃ j : Nat, v5 = .int .i64 j ∧ j ≤ 8 ∧ Hid (Arr wr w.heap.size (upS p r j)) ∧ Hid (Arr wr (w.heap.size + 1) q) ∧ Hid (Arr wr (w.heap.size + 2) (fun _ => false)) ∧ Ext w wr ∧ w.heap.size + 2 < wr.heap.size) (fun v5 _ => 8 - (intOf v5).toNat)
  case atStart =>
    refine ⟨0, rfl, by omega, ?_, ?_, ?_, by (repeat (first | assumption | exact Ext.refl _ | apply Ext.alloc | apply Ext.drew | apply Ext.drewN | refine Ext.set ?_ (by first | exact Nat.le_refl _ | assumption | exact Nat.le_succ _ | exact Nat.le_add_right _ _ | exact Nat.le_trans (Nat.le_succ _) (Nat.le_succ _) | omega) _ | refine Ext.trans ?_ (by assumption))), by simp⟩
    · have h := ((Arr.made (W := w) (e := 31) p rfl).old (o := .cells #[Value.int .u64 (wd (q) 0 : Nat), .int .u64 (wd (q) 1 : Nat), .int .u64 (wd (q) 2 : Nat), .int .u64 (wd (q) 3 : Nat), .int .u64 (wd (q) 4 : Nat), .int .u64 (wd (q) 5 : Nat), .int .u64 (wd (q) 6 : Nat), .int .u64 (wd (q) 7 : Nat)] 31) (by simp)).old (o := .cells #[Value.int .u64 0, .int .u64 0, .int .u64 0, .int .u64 0, .int .u64 0, .int .u64 0, .int .u64 0, .int .u64 0] 31) (by simp; omega)
      exact Lib.hid (fun k hk => by rw [up_ge _ _ (Nat.zero_le _)]; exact h k hk)
    · exact Lib.hid ((Arr.made q (by simp)).old (by simp))
    · exact Lib.hid (Arr.zero (by simp))
  case round =>
    obtain ⟨j, rfl, hj, HA, HB, HZ, he, hbw⟩ := hrel
    by_cases hlt : j < 8
    · obtain ⟨hw, hf⟩ := HA.out j hlt
      obtain ⟨hw2, hf2⟩ := HB.out j hlt
      rw [up_ge _ _ (Nat.le_refl _)] at hw
      have HA' := Lib.hid (HA.out.up hlt)
      have HB' : Hid (Arr (wr.setCell ⟨w.heap.size, j, none⟩ (.int .u64 (wd r j : Nat))) (w.heap.size + 1) q) := HB.out.other (by omega)
      have HZ' : Hid (Arr (wr.setCell ⟨w.heap.size, j, none⟩ (.int .u64 (wd r j : Nat))) (w.heap.size + 2) (fun _ => false)) := HZ.out.other (by omega)
      have HE' : Hid (Ext w (wr.setCell ⟨w.heap.size, j, none⟩ (.int .u64 (wd r j : Nat)))) := he.set (Nat.le_refl _) _
      have hor : bits .or .u64 ((wd p j : Nat) : Int) ((wd q j : Nat) : Int) = ((wd r j : Nat) : Int) := by
        rw [u64_or_nat _ _ (wd_lt' _ _) (wd_lt' _ _), wd_or, HR.out]; rfl
      go_wp2_with fail
      go_region_with (fail)
      all_goals
        go_wp2_with fail
        go_roundw
        case rel => exact ⟨j + 1, by go_num, by omega, Lib.hid HA'.out.drew, Lib.hid HB'.out.drew, Lib.hid HZ'.out.drew, HE'.out.drew, by simpa using hbw⟩
        case measure => simp [intOf]; omega
    · have hj' : j = 8 := by omega
      subst hj'
      replace HA := Lib.hid HA.out.all
      have H__ := (HA).out; obtain ⟨ce0, fe0⟩ := H__ 0 (by omega); obtain ⟨ce1, fe1⟩ := H__ 1 (by omega); obtain ⟨ce2, fe2⟩ := H__ 2 (by omega); obtain ⟨ce3, fe3⟩ := H__ 3 (by omega); obtain ⟨ce4, fe4⟩ := H__ 4 (by omega); obtain ⟨ce5, fe5⟩ := H__ 5 (by omega); obtain ⟨ce6, fe6⟩ := H__ 6 (by omega); obtain ⟨ce7, fe7⟩ := H__ 7 (by omega); clear H__
      have H__ := (HZ).out; obtain ⟨de0, ge0⟩ := H__ 0 (by omega); obtain ⟨de1, ge1⟩ := H__ 1 (by omega); obtain ⟨de2, ge2⟩ := H__ 2 (by omega); obtain ⟨de3, ge3⟩ := H__ 3 (by omega); obtain ⟨de4, ge4⟩ := H__ 4 (by omega); obtain ⟨de5, ge5⟩ := H__ 5 (by omega); obtain ⟨de6, ge6⟩ := H__ 6 (by omega); obtain ⟨de7, ge7⟩ := H__ 7 (by omega); clear H__
      have HEX : Hid (Ext w ((((((((wr.setCell ⟨w.heap.size + 2, 0, none⟩ (.int .u64 (wd (r) 0 : Nat))).setCell ⟨w.heap.size + 2, 1, none⟩ (.int .u64 (wd (r) 1 : Nat))).setCell ⟨w.heap.size + 2, 2, none⟩ (.int .u64 (wd (r) 2 : Nat))).setCell ⟨w.heap.size + 2, 3, none⟩ (.int .u64 (wd (r) 3 : Nat))).setCell ⟨w.heap.size + 2, 4, none⟩ (.int .u64 (wd (r) 4 : Nat))).setCell ⟨w.heap.size + 2, 5, none⟩ (.int .u64 (wd (r) 5 : Nat))).setCell ⟨w.heap.size + 2, 6, none⟩ (.int .u64 (wd (r) 6 : Nat))).setCell ⟨w.heap.size + 2, 7, none⟩ (.int .u64 (wd (r) 7 : Nat)))) := ((((((((he.set (by first | exact Nat.le_refl _ | exact Nat.le_succ _ | exact Nat.le_add_right _ _ | exact Nat.le_trans (Nat.le_succ _) (Nat.le_succ _) | omega) _).set (by first | exact Nat.le_refl _ | exact Nat.le_succ _ | exact Nat.le_add_right _ _ | exact Nat.le_trans (Nat.le_succ _) (Nat.le_succ _) | omega) _).set (by first | exact Nat.le_refl _ | exact Nat.le_succ _ | exact Nat.le_add_right _ _ | exact Nat.le_trans (Nat.le_succ _) (Nat.le_succ _) | omega) _).set (by first | exact Nat.le_refl _ | exact Nat.le_succ _ | exact Nat.le_add_right _ _ | exact Nat.le_trans (Nat.le_succ _) (Nat.le_succ _) | omega) _).set (by first | exact Nat.le_refl _ | exact Nat.le_succ _ | exact Nat.le_add_right _ _ | exact Nat.le_trans (Nat.le_succ _) (Nat.le_succ _) | omega) _).set (by first | exact Nat.le_refl _ | exact Nat.le_succ _ | exact Nat.le_add_right _ _ | exact Nat.le_trans (Nat.le_succ _) (Nat.le_succ _) | omega) _).set (by first | exact Nat.le_refl _ | exact Nat.le_succ _ | exact Nat.le_add_right _ _ | exact Nat.le_trans (Nat.le_succ _) (Nat.le_succ _) | omega) _).set (by first | exact Nat.le_refl _ | exact Nat.le_succ _ | exact Nat.le_add_right _ _ | exact Nat.le_trans (Nat.le_succ _) (Nat.le_succ _) | omega) _)
      go_wp2_with fail
      exact bodyPost_ret (v := Value.agg #[.int .u64 (wd (r) 0 : Nat), .int .u64 (wd (r) 1 : Nat), .int .u64 (wd (r) 2 : Nat), .int .u64 (wd (r) 3 : Nat), .int .u64 (wd (r) 4 : Nat), .int .u64 (wd (r) 5 : Nat), .int .u64 (wd (r) 6 : Nat), .int .u64 (wd (r) 7 : Nat)]) (by simp [results, Tryd.results74, go_sem, *]) rfl ⟨rfl, HEX⟩
end Go.Proofs.YtdeppnamhdbbhaaDoor
namespace Go.Proofs.YtdeppnamhdbbhaaDoor
open Go.RowKit Go.Eg

theorem upTo_at {n : Nat} {f : Nat → Nat → Bool} {i : Nat} (h : i < n) : (upTo n f i)[i]? = some (fun _ => false) := by simp [upTo, h]
theorem set_same {xs : List (Nat → Bool)} {i : Nat} {p : Nat → Bool} (h : xs[i]? = some p) : xs.set i p = xs := by
  apply List.ext_getElem?
  intro k
  rw [List.getElem?_set]
  split
  · rename_i e
    subst e
    rw [h]
    simp [(List.getElem?_eq_some_iff.1 h).1]
  · rfl
theorem set_at_same {xs : List (Nat → Bool)} {i : Nat} {p : Nat → Bool} (h : i < xs.length) : (xs.set i p)[i]? = some p := by rw [List.getElem?_set]; simp [h]
/-- What is not in p, from i on, below j. -/
def notTo (p : Nat → Bool) (i j m : Nat) : Bool := decide (i ≤ m ∧ m < j) && !p m
theorem notTo_zero (p : Nat → Bool) (i : Nat) : notTo p i i = fun _ => false := by
  funext m; rw [notTo, decide_eq_false (by omega)]; rfl
theorem notTo_put {p : Nat → Bool} {i j : Nat} (hij : i ≤ j) (h : p j = false) : addSet (notTo p i j) (j : Int) = notTo p i (j + 1) := by
  funext m
  rw [addSet, notTo, notTo, Bool.eq_iff_iff]
  simp only [Bool.or_eq_true, Bool.and_eq_true, decide_eq_true_eq, beq_iff_eq, Bool.not_eq_true']
  constructor
  · rintro (⟨h1, h2⟩ | h1)
    · exact ⟨by omega, h2⟩
    · obtain rfl : m = j := by omega
      exact ⟨by omega, h⟩
  · rintro ⟨h1, h2⟩
    by_cases e : m = j
    · exact .inr (by omega)
    · exact .inl ⟨by omega, h2⟩
theorem notTo_skip {p : Nat → Bool} {i j : Nat} (h : p j = true) : notTo p i (j + 1) = notTo p i j := by
  funext m
  rw [notTo, notTo, Bool.eq_iff_iff]
  simp only [Bool.and_eq_true, decide_eq_true_eq, Bool.not_eq_true']
  constructor
  · rintro ⟨h1, h2⟩
    by_cases e : m = j
    · subst e; rw [h] at h2; cases h2
    · exact ⟨by omega, h2⟩
  · rintro ⟨h1, h2⟩; exact ⟨by omega, h2⟩
theorem notTo_all {s : ByteArray} {nd : Nd} (hk : nd.k = 9) (a : T) (i : Nat) : notTo (rowB (bt s) s.size a i) i (s.size + 1) = rowB (bt s) s.size (.un nd a) i := by
  obtain ⟨k, sg⟩ := nd
  obtain rfl : k = 9 := hk
  funext j
  rw [row_not, notTo]
  congr 1
  exact decide_eq_decide.2 ⟨fun h => ⟨h.1, by omega⟩, fun h => ⟨h.1, by omega⟩⟩

set_option maxHeartbeats 4000000 in
set_option maxRecDepth 100000 in
theorem rnot_rows (s : ByteArray) (hs : s.size < 512) (nd : Nd) (hk : nd.k = 9) (a : T) (v : Value) (w : World) (hr : Rd tySet w (rowsL s a) v) :
    Calls Tryd.prog 53 #[v] w (RowsPost s (.un nd a) w) := by
  obtain ⟨A, c, rfl, hlc, hcm⟩ := hr.shape
  unfold maxLen at hcm
  have HK := Lib.hid (fun i => notTo_all (s := s) hk a i)
  clear hk
  have hN : (rowsL s a).length = s.size + 1 := rowsL_len s a
  have hmk := fun W => mk_sets (s.size + 1) W (by omega)
  have h0 := own_made (w := w) w.heap.size (s.size + 1) (Nat.le_refl _) (by omega)
  rw [hN] at *
  generalize hNe : s.size + 1 = N at *
  have HF := Lib.hid (show (List.range N).map (rowB (bt s) s.size (.un nd a)) = rowsL s (.un nd a) by rw [← hNe]; rfl)
  have HAt := Lib.hid (fun i (h : i < N) => (atS_get (xs := rowsL s a) (m := i) (by rw [rowsL_len, hNe]; exact h)).trans (congrArg some (atS_rows s a i)))
  have hN5 : N ≤ 512 := by omega
  clear hNe hN
  go_enter Tryd.func53, Tryd.ntmps53
  go_wp2_with (first | simp only [hmk])
  go_loopw [4, 5] (fun v4 _ wr => ∃ i : Nat, v4 = .int .i64 i ∧ i ≤ N ∧ Hid (Own tySet 31 w.heap.size No wr (upTo N (rowB (bt s) s.size (.un nd a)) i) (.slice (some ⟨w.heap.size, 0, none⟩) N N)) ∧ Ext w wr) (fun v4 _ _ => N - (intOf v4).toNat)
  case atStart => exact ⟨0, rfl, by omega, Lib.hid (by rw [upTo_zero]; exact h0), (Ext.refl w).alloc _⟩
  case round =>
    clear h0 hmk
    obtain ⟨i, rfl, hi, HO, he⟩ := hrel
    by_cases hlt : i < N
    · have hin : decide ((i : Int) < N) = true := decide_eq_true (by omega)
      have HKi := Lib.hid (HK.out i)
      have HAi := Lib.hid (HAt.out i hlt)
      go_wp2_with fail
      go_loopw [5] (fun v5 wr => ∃ j : Nat, v5 = .int .i64 j ∧ i ≤ j ∧ j ≤ N ∧ Hid (Own tySet 31 w.heap.size No wr ((upTo N (rowB (bt s) s.size (.un nd a)) i).set i (notTo (rowB (bt s) s.size a i) i j)) (.slice (some ⟨w.heap.size, 0, none⟩) N N)) ∧ Ext w wr) (fun v5 _ => N - (intOf v5).toNat)
      case atStart => exact ⟨i, rfl, by omega, by omega, Lib.hid (by rw [notTo_zero, set_same (upTo_at hlt)]; exact HO.out), he⟩
      case round =>
        clear he HO
        obtain ⟨j, rfl, hij, hj, HO, he⟩ := hrel
        by_cases hjn : j < N
        · obtain ⟨b, off, rfl, hb, d0, d1, d2, d3, d4, d5, d6, d7⟩ := rd_set (hr.ext he) HAi.out
          have HG : Hid (((upTo N (rowB (bt s) s.size (.un nd a)) i).set i (notTo (rowB (bt s) s.size a i) i j))[i]? = some (notTo (rowB (bt s) s.size a i) i j)) := Lib.hid (set_at_same (by rw [upTo_len]; exact hlt))
          have HH := Lib.hid (rhas_calls (rowB (bt s) s.size a i) (j : Int) (by omega) (by omega))
          rw [Int.toNat_natCast] at HH
          have HP := Lib.hid (rput_calls (notTo (rowB (bt s) s.size a i) i j) (j : Int) (by omega) (by omega))
          have HLn : Hid (i < ((upTo N (rowB (bt s) s.size (.un nd a)) i).set i (notTo (rowB (bt s) s.size a i) i j)).length) := Lib.hid (by rw [List.length_set, upTo_len]; exact hlt)
          cases hb2 : rowB (bt s) s.size a i j with
          | true =>
            rw [hb2] at HH
            have HS := Lib.hid (notTo_skip (i := i) hb2)
            generalize rowB (bt s) s.size a i = p at *
            clear hb2 HP
            go_wp2_with ((go_at_call 73; (with_reducible refine (HH.out _).mono ?_); rintro e w1 ⟨rfl, h1⟩))
            go_roundw
            case rel => exact ⟨j + 1, by go_num, by omega, by omega, Lib.hid (by rw [HS.out]; exact HO.out.ext h1), he.trans h1⟩
            case measure => simp [intOf]; omega
          | false =>
            rw [hb2] at HH
            have HS := Lib.hid (notTo_put hij hb2)
            rw [HS.out] at HP
            generalize rowB (bt s) s.size a i = p at *
            generalize hq' : notTo p i (j + 1) = q' at *
            replace hq' := Lib.hid hq'
            generalize notTo p i j = q at *
            clear hb2
            go_wp2_with (first
              | ((go_at_call 73; (with_reducible refine (HH.out _).mono ?_); rintro e w1 ⟨rfl, h1⟩); have HO1 := Lib.hid (HO.out.ext h1); obtain ⟨hg, hc0, hc1, hc2, hc3, hc4, hc5, hc6, hc7⟩ := own_set HO1.out HG.out)
              | ((go_at_call 72; (with_reducible refine (HP.out _).mono ?_); rintro e w2 ⟨rfl, h2⟩); have HO2 := Lib.hid (HO1.out.ext h2); obtain ⟨hg2, hd0, hd1, hd2, hd3, hd4, hd5, hd6, hd7⟩ := own_set HO2.out HG.out; have hfr := HO2.out.free))
            go_roundw
            case rel =>
              have HS5 := Own.store8 (i := i) HO2.out HLn.out q'
              rw [List.set_set] at HS5
              exact ⟨j + 1, by go_num, by omega, by omega, Lib.hid (by rw [hq'.out]; exact HS5), Ext.put8 ((he.trans h1).trans h2) (i * 8) q' (Nat.le_refl _)⟩
            case measure => simp [intOf]; omega
        · have hj' : j = N := by omega
          subst hj'
          go_wp2_with fail
          go_roundw
          case rel => exact ⟨i + 1, by go_num, by omega, Lib.hid (by have h9 := HO.out; rw [HKi.out] at h9; rw [upTo_set] at h9; exact h9), he⟩
          case measure => simp [intOf]; omega
    · have hi' : i = N := by omega
      subst hi'
      go_wp2_with fail
      go_ret
      rw [upTo_all, HF.out] at HO
      exact ⟨_, rfl, HO.out, he⟩
end Go.Proofs.YtdeppnamhdbbhaaDoor
namespace Go.Proofs.YtdeppnamhdbbhaaDoor
open Go.RowKit Go.Eg

theorem above_get {n : Nat} {f : Nat → Nat → Bool} {i : Int} {m : Nat} (hm : m < n) (h : i < m) : (above n f i)[m]? = some (f m) := by
  simp only [above, List.getElem?_map, List.getElem?_range hm, Option.map_some, if_pos h]
theorem above_here {n : Nat} {f : Nat → Nat → Bool} {m : Nat} (hm : m < n) : (above n f m)[m]? = some (fun _ => false) := by
  simp only [above, List.getElem?_map, List.getElem?_range hm, Option.map_some, if_neg (Int.lt_irrefl _)]
/-- A star's row: the place itself, and from the places above it, below j, on. -/
def starQ (p : Nat → Bool) (f : Nat → Nat → Bool) (m j : Nat) : Nat → Bool := orS (fun x => x == m) (thruTo (fun k => decide (m < k) && p k) f j)
theorem starQ_zero (p : Nat → Bool) (f : Nat → Nat → Bool) (m : Nat) : starQ p f m (m + 1) = fun x => x == m := by
  funext x
  have : thruTo (fun k => decide (m < k) && p k) f (m + 1) x = false := by
    cases h : thruTo (fun k => decide (m < k) && p k) f (m + 1) x
    · rfl
    · obtain ⟨k, h1, h2, _⟩ := thruTo_iff.1 h
      simp at h2; omega
  rw [starQ, orS, this, Bool.or_false]
theorem starQ_more {p : Nat → Bool} {f : Nat → Nat → Bool} {m j : Nat} (hmj : m < j) (h : p j = true) : orS (starQ p f m j) (f j) = starQ p f m (j + 1) := by
  have hs : thruTo (fun k => decide (m < k) && p k) f (j + 1) = orS (thruTo (fun k => decide (m < k) && p k) f j) (f j) := thru_step (Nat.le_refl j) (by rw [decide_eq_true hmj, h]; rfl) (fun k h1 h2 => by omega)
  funext x
  rw [starQ, starQ, hs]
  simp only [orS, Bool.or_assoc]
theorem starQ_skip {p : Nat → Bool} {f : Nat → Nat → Bool} {m j : Nat} (h : p j = false) : starQ p f m (j + 1) = starQ p f m j := by
  funext x
  rw [starQ, starQ, orS, orS]
  congr 1
  rw [Bool.eq_iff_iff, thruTo_iff, thruTo_iff]
  constructor
  · rintro ⟨k, h1, h2, h3⟩
    by_cases e : k = j
    · subst e; rw [h] at h2; simp at h2
    · exact ⟨k, by omega, h2, h3⟩
  · rintro ⟨k, h1, h2, h3⟩; exact ⟨k, by omega, h2, h3⟩
theorem starQ_all {s : ByteArray} (hs : s.size < 512) {nd : Nd} (hk : nd.k = 8) (a : T) (m : Nat) (hm : m ≤ s.size) : starQ (rowB (bt s) s.size a m) (rowB (bt s) s.size (.un nd a)) m (s.size + 1) = rowB (bt s) s.size (.un nd a) m := by
  obtain ⟨k, sg⟩ := nd
  obtain rfl : k = 8 := hk
  have ht := thru_end (s := fun k => decide (m < k) && rowB (bt s) s.size a m k) (r := rowB (bt s) s.size (.un ⟨8, sg⟩ a)) (x := s.size + 1) (by omega) (fun k h1 h2 => by
    cases h : rowB (bt s) s.size a m k
    · simp
    · have := rowB_iff.1 h; omega)
  rw [starQ, ht]
  exact star_thru hs a m hm _ (fun x => by
    simp only [Bool.and_eq_true, decide_eq_true_eq]
    constructor
    · rintro ⟨h1, h2⟩; exact ⟨by omega, h2⟩
    · rintro ⟨h1, h2⟩; have := rowB_iff.1 h2; exact ⟨by omega, h2⟩) _ (fun _ _ _ => rfl)

set_option maxHeartbeats 8000000 in
set_option maxRecDepth 100000 in
theorem rstar_rows (s : ByteArray) (hs : s.size < 512) (nd : Nd) (hk : nd.k = 8) (a : T) (v : Value) (w : World) (hr : Rd tySet w (rowsL s a) v) :
    Calls Tryd.prog 52 #[v] w (RowsPost s (.un nd a) w) := by
  obtain ⟨A, c, rfl, hlc, hcm⟩ := hr.shape
  unfold maxLen at hcm
  have HK := Lib.hid (fun m h => starQ_all hs hk a m h)
  clear hk
  have hN : (rowsL s a).length = s.size + 1 := rowsL_len s a
  have hmk := fun W => mk_sets (s.size + 1) W (by omega)
  have h0 := own_made (w := w) w.heap.size (s.size + 1) (Nat.le_refl _) (by omega)
  have ht0 := above_top s.size (rowB (bt s) s.size (.un nd a))
  rw [hN] at *
  have HF := Lib.hid (show (List.range (s.size + 1)).map (rowB (bt s) s.size (.un nd a)) = rowsL s (.un nd a) from rfl)
  have HAt := Lib.hid (fun i (h : i < s.size + 1) => (atS_get (xs := rowsL s a) (m := i) (by rw [rowsL_len]; exact h)).trans (congrArg some (atS_rows s a i)))
  clear hN
  have hcast : ((s.size + 1 : Nat) : Int) = (s.size : Int) + 1 := by omega
  rw [hcast] at hmk
  go_enter Tryd.func52, Tryd.ntmps52
  go_wp2_with (first | simp only [hmk])
  go_loopw [4, 5] (fun v4 _ wr => ∃ i : Int, v4 = .int .i64 i ∧ -1 ≤ i ∧ i ≤ s.size ∧ Hid (Own tySet 31 w.heap.size No wr (above (s.size + 1) (rowB (bt s) s.size (.un nd a)) i) (.slice (some ⟨w.heap.size, 0, none⟩) (s.size + 1) (s.size + 1))) ∧ Ext w wr) (fun v4 _ _ => (intOf v4 + 1).toNat)
  case atStart => exact ⟨s.size, val_int (by omega), by omega, by omega, Lib.hid (by rw [ht0]; exact h0), (Ext.refl w).alloc _⟩
  case round =>
    clear h0 hmk ht0
    obtain ⟨i, rfl, hi1, hi2, HO, he⟩ := hrel
    by_cases hneg : i = -1
    · subst hneg
      go_wp2_with fail
      go_ret
      rw [above_all, HF.out] at HO
      exact ⟨_, rfl, HO.out, he⟩
    · obtain ⟨m, rfl⟩ := Int.eq_ofNat_of_zero_le (show 0 ≤ i by omega)
      have hm : m < s.size + 1 := by omega
      have hge : decide ((0 : Int) ≤ (m : Int)) = true := decide_eq_true (by omega)
      have HKm := Lib.hid (HK.out m (by omega))
      have HAm := Lib.hid (HAt.out m hm)
      have HG : Hid ((above (s.size + 1) (rowB (bt s) s.size (.un nd a)) m)[m]? = some (fun _ => false)) := Lib.hid (above_here hm)
      have HP := Lib.hid (rput_calls (fun _ => false) (m : Int) (by omega) (by omega))
      rw [add_one, ← starQ_zero (rowB (bt s) s.size a m) (rowB (bt s) s.size (.un nd a)) m] at HP
      obtain ⟨hg, hc0, hc1, hc2, hc3, hc4, hc5, hc6, hc7⟩ := own_set HO.out HG.out
      have HL0 : Hid (m < (above (s.size + 1) (rowB (bt s) s.size (.un nd a)) m).length) := Lib.hid (by rw [above_len]; exact hm)
      generalize hq0 : starQ (rowB (bt s) s.size a m) (rowB (bt s) s.size (.un nd a)) m (m + 1) = q0 at *
      go_wp2_with ((go_at_call 72; (with_reducible refine (HP.out _).mono ?_); rintro e w2 ⟨rfl, h2⟩); have HO2 := Lib.hid (HO.out.ext h2); obtain ⟨hg2, hd0, hd1, hd2, hd3, hd4, hd5, hd6, hd7⟩ := own_set HO2.out HG.out; have hfr := HO2.out.free)
      go_loopw [5] (fun v5 wr => ∃ j : Nat, v5 = .int .i64 j ∧ m < j ∧ j ≤ s.size + 1 ∧ Hid (Own tySet 31 w.heap.size No wr ((above (s.size + 1) (rowB (bt s) s.size (.un nd a)) m).set m (starQ (rowB (bt s) s.size a m) (rowB (bt s) s.size (.un nd a)) m j)) (.slice (some ⟨w.heap.size, 0, none⟩) (s.size + 1) (s.size + 1))) ∧ Ext w wr) (fun v5 _ => s.size + 1 - (intOf v5).toNat)
      case atStart => exact ⟨m + 1, val_int (by omega), by omega, by omega, Lib.hid (by rw [hq0]; exact Own.store8 (i := m) HO2.out HL0.out q0), Ext.put8 (he.trans h2) (m * 8) q0 (Nat.le_refl _)⟩
      case round =>
        clear he HO HO2 h2 hg hc0 hc1 hc2 hc3 hc4 hc5 hc6 hc7 hg2 hd0 hd1 hd2 hd3 hd4 hd5 hd6 hd7 hfr
        obtain ⟨j, rfl, hmj, hj, HO, he⟩ := hrel
        by_cases hjn : j < s.size + 1
        · obtain ⟨b, off, rfl, hb, d0, d1, d2, d3, d4, d5, d6, d7⟩ := rd_set (hr.ext he) HAm.out
          have HGm : Hid (((above (s.size + 1) (rowB (bt s) s.size (.un nd a)) m).set m (starQ (rowB (bt s) s.size a m) (rowB (bt s) s.size (.un nd a)) m j))[m]? = some (starQ (rowB (bt s) s.size a m) (rowB (bt s) s.size (.un nd a)) m j)) := Lib.hid (set_at_same HL0.out)
          have HGj : Hid (((above (s.size + 1) (rowB (bt s) s.size (.un nd a)) m).set m (starQ (rowB (bt s) s.size a m) (rowB (bt s) s.size (.un nd a)) m j))[j]? = some (rowB (bt s) s.size (.un nd a) j)) := Lib.hid (by rw [List.getElem?_set_ne (by omega)]; exact above_get hjn (by omega))
          have HH := Lib.hid (rhas_calls (rowB (bt s) s.size a m) (j : Int) (by omega) (by omega))
          rw [Int.toNat_natCast] at HH
          have HJ := Lib.hid (rjoin_calls (starQ (rowB (bt s) s.size a m) (rowB (bt s) s.size (.un nd a)) m j) (rowB (bt s) s.size (.un nd a) j))
          have HLn : Hid (m < ((above (s.size + 1) (rowB (bt s) s.size (.un nd a)) m).set m (starQ (rowB (bt s) s.size a m) (rowB (bt s) s.size (.un nd a)) m j)).length) := Lib.hid (by rw [List.length_set, above_len]; exact hm)
          cases hb2 : rowB (bt s) s.size a m j with
          | false =>
            rw [hb2] at HH
            have HS := Lib.hid (starQ_skip (f := rowB (bt s) s.size (.un nd a)) (m := m) hb2)
            clear HJ
            generalize hpp : rowB (bt s) s.size a m = p at *
            clear hb2 hq0
            go_wp2_with ((go_at_call 73; (with_reducible refine (HH.out _).mono ?_); rintro e w3 ⟨rfl, h3⟩))
            go_roundw
            case rel => exact ⟨j + 1, by go_num, by omega, by omega, Lib.hid (by rw [HS.out]; exact HO.out.ext h3), he.trans h3⟩
            case measure => simp [intOf]; omega
          | true =>
            rw [hb2] at HH
            have HS := Lib.hid (starQ_more (f := rowB (bt s) s.size (.un nd a)) hmj hb2)
            rw [HS.out] at HJ
            generalize rowB (bt s) s.size a m = p at *
            generalize hq' : starQ p (rowB (bt s) s.size (.un nd a)) m (j + 1) = q' at *
            replace hq' := Lib.hid hq'
            generalize starQ p (rowB (bt s) s.size (.un nd a)) m j = q at *
            generalize rowB (bt s) s.size (.un nd a) j = fj at *
            clear hb2 hq0
            go_wp2_with ((go_at_call 73; (with_reducible refine (HH.out _).mono ?_); rintro e w3 ⟨rfl, h3⟩); have HO3 := Lib.hid (HO.out.ext h3); obtain ⟨hg, hc0, hc1, hc2, hc3, hc4, hc5, hc6, hc7⟩ := own_set HO3.out HGm.out; obtain ⟨hg', he0, he1, he2, he3, he4, he5, he6, he7⟩ := own_set HO3.out HGj.out)
            go_region_with ((go_at_call 74; (with_reducible refine (HJ.out _).mono ?_); rintro e w4 ⟨rfl, h4⟩); have h4' := Ext.undrew h4; have HO4 := Lib.hid (HO3.out.ext h4'); obtain ⟨hg4, hd0, hd1, hd2, hd3, hd4, hd5, hd6, hd7⟩ := own_set HO4.out HGm.out; have hfr := HO4.out.free)
            all_goals
              go_wp2_with fail
              go_roundw
              case rel =>
                have HS5 := Own.store8 (i := m) HO4.out HLn.out q'
                rw [List.set_set] at HS5
                exact ⟨j + 1, by go_num, by omega, by omega, Lib.hid (by rw [hq'.out]; exact HS5), Ext.put8 ((he.trans h3).trans h4') (m * 8) q' (Nat.le_refl _)⟩
              case measure => simp [intOf]; omega
        · have hj' : j = s.size + 1 := by omega
          subst hj'
          go_wp2_with fail
          go_roundw
          case rel => exact ⟨(m : Int) - 1, by go_num, by omega, by omega, Lib.hid (by have h9 := HO.out; rw [HKm.out, above_set _ _ _ hm] at h9; exact h9), he⟩
          case measure => simp [intOf]
end Go.Proofs.YtdeppnamhdbbhaaDoor
namespace Go.Proofs.YtdeppnamhdbbhaaDoor
open Go.RowKit Go.Eg

/-- What is in g, from i on, below j. -/
def bothTo (g : Nat → Bool) (i j m : Nat) : Bool := decide (i ≤ m ∧ m < j) && g m
theorem bothTo_zero (g : Nat → Bool) (i : Nat) : bothTo g i i = fun _ => false := by
  funext m; rw [bothTo, decide_eq_false (by omega)]; rfl
theorem bothTo_put {g : Nat → Bool} {i j : Nat} (hij : i ≤ j) (h : g j = true) : addSet (bothTo g i j) (j : Int) = bothTo g i (j + 1) := by
  funext m
  rw [addSet, bothTo, bothTo, Bool.eq_iff_iff]
  simp only [Bool.or_eq_true, Bool.and_eq_true, decide_eq_true_eq, beq_iff_eq]
  constructor
  · rintro (⟨h1, h2⟩ | h1)
    · exact ⟨by omega, h2⟩
    · obtain rfl : m = j := by omega
      exact ⟨by omega, h⟩
  · rintro ⟨h1, h2⟩
    by_cases e : m = j
    · exact .inr (by omega)
    · exact .inl ⟨by omega, h2⟩
theorem bothTo_skip {g : Nat → Bool} {i j : Nat} (h : g j = false) : bothTo g i (j + 1) = bothTo g i j := by
  funext m
  rw [bothTo, bothTo, Bool.eq_iff_iff]
  simp only [Bool.and_eq_true, decide_eq_true_eq]
  constructor
  · rintro ⟨h1, h2⟩
    by_cases e : m = j
    · subst e; rw [h] at h2; cases h2
    · exact ⟨by omega, h2⟩
  · rintro ⟨h1, h2⟩; exact ⟨by omega, h2⟩
theorem row_in {s : ByteArray} {x : T} {i j : Nat} : rowB (bt s) s.size x i j = (decide (i ≤ j ∧ j < s.size + 1) && rowB (bt s) s.size x i j) := by
  cases h : rowB (bt s) s.size x i j
  · simp
  · have := rowB_iff.1 h; rw [decide_eq_true (by omega)]; rfl
theorem thru_none {p : Nat → Bool} {r : Nat → Nat → Bool} {i : Nat} (h : ∀ k, p k = true → i ≤ k) : thruTo p r i = fun _ => false := by
  funext x
  cases hx : thruTo p r i x
  · rfl
  · obtain ⟨k, h1, h2, _⟩ := thruTo_iff.1 hx
    have := h k h2; omega
theorem thru_skip {p : Nat → Bool} {r : Nat → Nat → Bool} {j : Nat} (h : p j = false) : thruTo p r (j + 1) = thruTo p r j := by
  funext x
  rw [Bool.eq_iff_iff, thruTo_iff, thruTo_iff]
  constructor
  · rintro ⟨k, h1, h2, h3⟩
    by_cases e : k = j
    · subst e; rw [h] at h2; cases h2
    · exact ⟨k, by omega, h2, h3⟩
  · rintro ⟨k, h1, h2, h3⟩; exact ⟨k, by omega, h2, h3⟩
theorem two5_all {s : ByteArray} {nd : Nd} (hk : nd.k = 5) (a b : T) (i : Nat) : bothTo (fun m => rowB (bt s) s.size a i m || rowB (bt s) s.size b i m) i (s.size + 1) = rowB (bt s) s.size (.bin nd a b) i := by
    obtain ⟨k, sg⟩ := nd
    obtain rfl : k = 5 := hk
    funext m
    rw [bothTo, row_union, row_in (x := a), row_in (x := b)]
    cases decide (i ≤ m ∧ m < s.size + 1) <;> simp
set_option maxHeartbeats 8000000 in
set_option maxRecDepth 100000 in
theorem rtwo5_rows (s : ByteArray) (hs : s.size < 512) (nd : Nd) (hk : nd.k = 5) (a b : T) (va vb : Value) (w : World) (hra : Rd tySet w (rowsL s a) va) (hrb : Rd tySet w (rowsL s b) vb) :
    Calls Tryd.prog 54 #[.int .i64 5, va, vb] w (RowsPost s (.bin nd a b) w) := by
  obtain ⟨A, c, rfl, hlc, hcm⟩ := hra.shape
  obtain ⟨A', c', rfl, hlc', hcm'⟩ := hrb.shape
  unfold maxLen at hcm hcm'
  have HK := Lib.hid (fun i => two5_all (s := s) hk a b i)
  clear hk
  have hN : (rowsL s a).length = s.size + 1 := rowsL_len s a
  have hN' : (rowsL s b).length = s.size + 1 := rowsL_len s b
  have hmk := fun W => mk_sets (s.size + 1) W (by omega)
  have h0 := own_made (w := w) w.heap.size (s.size + 1) (Nat.le_refl _) (by omega)
  rw [hN] at *
  rw [hN'] at *
  generalize hNe : s.size + 1 = N at *
  have HF := Lib.hid (show (List.range N).map (rowB (bt s) s.size (.bin nd a b)) = rowsL s (.bin nd a b) by rw [← hNe]; rfl)
  have HAt := Lib.hid (fun i (h : i < N) => (atS_get (xs := rowsL s a) (m := i) (by rw [rowsL_len, hNe]; exact h)).trans (congrArg some (atS_rows s a i)))
  have HBt := Lib.hid (fun i (h : i < N) => (atS_get (xs := rowsL s b) (m := i) (by rw [rowsL_len, hNe]; exact h)).trans (congrArg some (atS_rows s b i)))
  have hN5 : N ≤ 512 := by omega
  clear hNe hN hN'
  go_enter Tryd.func54, Tryd.ntmps54
  go_wp2_with (first | simp only [hmk])
  go_loopw [8, 9, 10, 11] (fun v8 _ _ _ wr => ∃ i : Nat, v8 = .int .i64 i ∧ i ≤ N ∧ Hid (Own tySet 31 w.heap.size No wr (upTo N (rowB (bt s) s.size (.bin nd a b)) i) (.slice (some ⟨w.heap.size, 0, none⟩) N N)) ∧ Ext w wr) (fun v8 _ _ _ _ => N - (intOf v8).toNat)
  case atStart => exact ⟨0, rfl, by omega, Lib.hid (by rw [upTo_zero]; exact h0), (Ext.refl w).alloc _⟩
  case round =>
    clear h0 hmk
    obtain ⟨i, rfl, hi, HO, he⟩ := hrel
    by_cases hlt : i < N
    · have hin : decide ((i : Int) < N) = true := decide_eq_true (by omega)
      have HKi := Lib.hid (HK.out i)
      have HAi := Lib.hid (HAt.out i hlt)
      have HBi := Lib.hid (HBt.out i hlt)
      go_wp2_with fail
      go_loopw [9, 10, 11] (fun v9 _ _ wr => ∃ j : Nat, v9 = .int .i64 j ∧ i ≤ j ∧ j ≤ N ∧ Hid (Own tySet 31 w.heap.size No wr ((upTo N (rowB (bt s) s.size (.bin nd a b)) i).set i (bothTo (fun m => rowB (bt s) s.size a i m || rowB (bt s) s.size b i m) i j)) (.slice (some ⟨w.heap.size, 0, none⟩) N N)) ∧ Ext w wr) (fun v9 _ _ _ => N - (intOf v9).toNat)
      case atStart => exact ⟨i, rfl, by omega, by omega, Lib.hid (by rw [show (bothTo (fun m => rowB (bt s) s.size a i m || rowB (bt s) s.size b i m) i i) = fun _ => false from bothTo_zero _ i, set_same (upTo_at hlt)]; exact HO.out), he⟩
      case round =>
        clear he HO
        obtain ⟨j, rfl, hij, hj, HO, he⟩ := hrel
        by_cases hjn : j < N
        · obtain ⟨b1, off1, rfl, hb1, d0, d1, d2, d3, d4, d5, d6, d7⟩ := rd_set (hra.ext he) HAi.out
          have HG : Hid (((upTo N (rowB (bt s) s.size (.bin nd a b)) i).set i (bothTo (fun m => rowB (bt s) s.size a i m || rowB (bt s) s.size b i m) i j))[i]? = some (bothTo (fun m => rowB (bt s) s.size a i m || rowB (bt s) s.size b i m) i j)) := Lib.hid (set_at_same (by rw [upTo_len]; exact hlt))
          have HH := Lib.hid (rhas_calls (rowB (bt s) s.size a i) (j : Int) (by omega) (by omega))
          have HH' := Lib.hid (rhas_calls (rowB (bt s) s.size b i) (j : Int) (by omega) (by omega))
          rw [Int.toNat_natCast] at HH HH'
          have HLn : Hid (i < ((upTo N (rowB (bt s) s.size (.bin nd a b)) i).set i (bothTo (fun m => rowB (bt s) s.size a i m || rowB (bt s) s.size b i m) i j)).length) := Lib.hid (by rw [List.length_set, upTo_len]; exact hlt)
          have HBj := Lib.hid (HBt.out j hjn)
          cases hx : rowB (bt s) s.size a i j with
          | true =>
            rw [hx] at HH
            cases hy : rowB (bt s) s.size b i j with
            | true =>
              rw [hy] at HH'
              have HS := Lib.hid (bothTo_put (g := fun m => rowB (bt s) s.size a i m || rowB (bt s) s.size b i m) hij (by show (_ || _) = true; rw [hx, hy]; rfl))
              have HP := Lib.hid (rput_calls (bothTo (fun m => rowB (bt s) s.size a i m || rowB (bt s) s.size b i m) i j) (j : Int) (by omega) (by omega))
              rw [HS.out] at HP
              generalize hq' : (bothTo (fun m => rowB (bt s) s.size a i m || rowB (bt s) s.size b i m) i (j + 1)) = q' at *
              replace hq' := Lib.hid hq'
              generalize (bothTo (fun m => rowB (bt s) s.size a i m || rowB (bt s) s.size b i m) i j) = q at *
              generalize (rowB (bt s) s.size a i) = p at *
              generalize (rowB (bt s) s.size b i) = pb at *
              clear hx hy
              go_wp2_with (first
                | ((go_at_call 73; (with_reducible refine (HH.out _).mono ?_); rintro e w1 ⟨rfl, h1⟩); have HB9 := (hrb.ext (he.trans h1)); obtain ⟨b2, off2, rfl, hb2, e0, e1, e2, e3, e4, e5, e6, e7⟩ := rd_set HB9 HBi.out)
                | ((go_at_call 73; (with_reducible refine (HH'.out _).mono ?_); rintro e w2 ⟨rfl, h2⟩); have HO1 := Lib.hid (HO.out.ext (h1.trans h2)); obtain ⟨hg, hc0, hc1, hc2, hc3, hc4, hc5, hc6, hc7⟩ := own_set HO1.out HG.out)
                | ((go_at_call 72; (with_reducible refine (HP.out _).mono ?_); rintro e w3 ⟨rfl, h3⟩); have HO2 := Lib.hid (HO1.out.ext h3); obtain ⟨hg2, hd0, hd1, hd2, hd3, hd4, hd5, hd6, hd7⟩ := own_set HO2.out HG.out; have hfr := HO2.out.free))
              go_roundw
              case rel =>
                have HS5 := Own.store8 (i := i) HO2.out HLn.out q'
                rw [List.set_set] at HS5
                exact ⟨j + 1, by go_num, by omega, by omega, Lib.hid (by rw [hq'.out]; exact HS5), Ext.put8 (((he.trans h1).trans h2).trans h3) (i * 8) q' (Nat.le_refl _)⟩
              case measure => simp [intOf]; omega
            | false =>
              rw [hy] at HH'
              have HS := Lib.hid (bothTo_put (g := fun m => rowB (bt s) s.size a i m || rowB (bt s) s.size b i m) hij (by show (_ || _) = true; rw [hx, hy]; rfl))
              have HP := Lib.hid (rput_calls (bothTo (fun m => rowB (bt s) s.size a i m || rowB (bt s) s.size b i m) i j) (j : Int) (by omega) (by omega))
              rw [HS.out] at HP
              generalize hq' : (bothTo (fun m => rowB (bt s) s.size a i m || rowB (bt s) s.size b i m) i (j + 1)) = q' at *
              replace hq' := Lib.hid hq'
              generalize (bothTo (fun m => rowB (bt s) s.size a i m || rowB (bt s) s.size b i m) i j) = q at *
              generalize (rowB (bt s) s.size a i) = p at *
              generalize (rowB (bt s) s.size b i) = pb at *
              clear hx hy
              go_wp2_with (first
                | ((go_at_call 73; (with_reducible refine (HH.out _).mono ?_); rintro e w1 ⟨rfl, h1⟩); have HB9 := (hrb.ext (he.trans h1)); obtain ⟨b2, off2, rfl, hb2, e0, e1, e2, e3, e4, e5, e6, e7⟩ := rd_set HB9 HBi.out)
                | ((go_at_call 73; (with_reducible refine (HH'.out _).mono ?_); rintro e w2 ⟨rfl, h2⟩); have HO1 := Lib.hid (HO.out.ext (h1.trans h2)); obtain ⟨hg, hc0, hc1, hc2, hc3, hc4, hc5, hc6, hc7⟩ := own_set HO1.out HG.out)
                | ((go_at_call 72; (with_reducible refine (HP.out _).mono ?_); rintro e w3 ⟨rfl, h3⟩); have HO2 := Lib.hid (HO1.out.ext h3); obtain ⟨hg2, hd0, hd1, hd2, hd3, hd4, hd5, hd6, hd7⟩ := own_set HO2.out HG.out; have hfr := HO2.out.free))
              go_roundw
              case rel =>
                have HS5 := Own.store8 (i := i) HO2.out HLn.out q'
                rw [List.set_set] at HS5
                exact ⟨j + 1, by go_num, by omega, by omega, Lib.hid (by rw [hq'.out]; exact HS5), Ext.put8 (((he.trans h1).trans h2).trans h3) (i * 8) q' (Nat.le_refl _)⟩
              case measure => simp [intOf]; omega
          | false =>
            rw [hx] at HH
            cases hy : rowB (bt s) s.size b i j with
            | true =>
              rw [hy] at HH'
              have HS := Lib.hid (bothTo_put (g := fun m => rowB (bt s) s.size a i m || rowB (bt s) s.size b i m) hij (by show (_ || _) = true; rw [hx, hy]; rfl))
              have HP := Lib.hid (rput_calls (bothTo (fun m => rowB (bt s) s.size a i m || rowB (bt s) s.size b i m) i j) (j : Int) (by omega) (by omega))
              rw [HS.out] at HP
              generalize hq' : (bothTo (fun m => rowB (bt s) s.size a i m || rowB (bt s) s.size b i m) i (j + 1)) = q' at *
              replace hq' := Lib.hid hq'
              generalize (bothTo (fun m => rowB (bt s) s.size a i m || rowB (bt s) s.size b i m) i j) = q at *
              generalize (rowB (bt s) s.size a i) = p at *
              generalize (rowB (bt s) s.size b i) = pb at *
              clear hx hy
              go_wp2_with (first
                | ((go_at_call 73; (with_reducible refine (HH.out _).mono ?_); rintro e w1 ⟨rfl, h1⟩); have HB9 := (hrb.ext (he.trans h1)); obtain ⟨b2, off2, rfl, hb2, e0, e1, e2, e3, e4, e5, e6, e7⟩ := rd_set HB9 HBi.out)
                | ((go_at_call 73; (with_reducible refine (HH'.out _).mono ?_); rintro e w2 ⟨rfl, h2⟩); have HO1 := Lib.hid (HO.out.ext (h1.trans h2)); obtain ⟨hg, hc0, hc1, hc2, hc3, hc4, hc5, hc6, hc7⟩ := own_set HO1.out HG.out)
                | ((go_at_call 72; (with_reducible refine (HP.out _).mono ?_); rintro e w3 ⟨rfl, h3⟩); have HO2 := Lib.hid (HO1.out.ext h3); obtain ⟨hg2, hd0, hd1, hd2, hd3, hd4, hd5, hd6, hd7⟩ := own_set HO2.out HG.out; have hfr := HO2.out.free))
              go_roundw
              case rel =>
                have HS5 := Own.store8 (i := i) HO2.out HLn.out q'
                rw [List.set_set] at HS5
                exact ⟨j + 1, by go_num, by omega, by omega, Lib.hid (by rw [hq'.out]; exact HS5), Ext.put8 (((he.trans h1).trans h2).trans h3) (i * 8) q' (Nat.le_refl _)⟩
              case measure => simp [intOf]; omega
            | false =>
              rw [hy] at HH'
              have HS := Lib.hid (bothTo_skip (g := fun m => rowB (bt s) s.size a i m || rowB (bt s) s.size b i m) (i := i) (j := j) (by show (_ || _) = false; rw [hx, hy]; rfl))
              generalize hq' : (bothTo (fun m => rowB (bt s) s.size a i m || rowB (bt s) s.size b i m) i (j + 1)) = q' at *
              replace hq' := Lib.hid hq'
              generalize (bothTo (fun m => rowB (bt s) s.size a i m || rowB (bt s) s.size b i m) i j) = q at *
              generalize (rowB (bt s) s.size a i) = p at *
              generalize (rowB (bt s) s.size b i) = pb at *
              clear hx hy
              go_wp2_with (first
                | ((go_at_call 73; (with_reducible refine (HH.out _).mono ?_); rintro e w1 ⟨rfl, h1⟩); have HB9 := (hrb.ext (he.trans h1)); obtain ⟨b2, off2, rfl, hb2, e0, e1, e2, e3, e4, e5, e6, e7⟩ := rd_set HB9 HBi.out)
                | ((go_at_call 73; (with_reducible refine (HH'.out _).mono ?_); rintro e w2 ⟨rfl, h2⟩)))
              go_roundw
              case rel => exact ⟨j + 1, by go_num, by omega, by omega, Lib.hid (by have h9 := HO.out.ext (h1.trans h2); rw [← HS.out] at h9; rw [hq'.out]; exact h9), (he.trans h1).trans h2⟩
              case measure => simp [intOf]; omega
        · have hj' : j = N := by omega
          subst hj'
          go_wp2_with fail
          go_roundw
          case rel => exact ⟨i + 1, by go_num, by omega, Lib.hid (by have h9 := HO.out; rw [HKi.out, upTo_set] at h9; exact h9), he⟩
          case measure => simp [intOf]; omega
    · have hi' : i = N := by omega
      subst hi'
      go_wp2_with fail
      go_ret
      rw [upTo_all, HF.out] at HO
      exact ⟨_, rfl, HO.out, he⟩
theorem two6_all {s : ByteArray} {nd : Nd} (hk : nd.k = 6) (a b : T) (i : Nat) : bothTo (fun m => rowB (bt s) s.size a i m && rowB (bt s) s.size b i m) i (s.size + 1) = rowB (bt s) s.size (.bin nd a b) i := by
    obtain ⟨k, sg⟩ := nd
    obtain rfl : k = 6 := hk
    funext m
    rw [bothTo, row_inter, row_in (x := a), row_in (x := b)]
    cases decide (i ≤ m ∧ m < s.size + 1) <;> simp
set_option maxHeartbeats 8000000 in
set_option maxRecDepth 100000 in
theorem rtwo6_rows (s : ByteArray) (hs : s.size < 512) (nd : Nd) (hk : nd.k = 6) (a b : T) (va vb : Value) (w : World) (hra : Rd tySet w (rowsL s a) va) (hrb : Rd tySet w (rowsL s b) vb) :
    Calls Tryd.prog 54 #[.int .i64 6, va, vb] w (RowsPost s (.bin nd a b) w) := by
  obtain ⟨A, c, rfl, hlc, hcm⟩ := hra.shape
  obtain ⟨A', c', rfl, hlc', hcm'⟩ := hrb.shape
  unfold maxLen at hcm hcm'
  have HK := Lib.hid (fun i => two6_all (s := s) hk a b i)
  clear hk
  have hN : (rowsL s a).length = s.size + 1 := rowsL_len s a
  have hN' : (rowsL s b).length = s.size + 1 := rowsL_len s b
  have hmk := fun W => mk_sets (s.size + 1) W (by omega)
  have h0 := own_made (w := w) w.heap.size (s.size + 1) (Nat.le_refl _) (by omega)
  rw [hN] at *
  rw [hN'] at *
  generalize hNe : s.size + 1 = N at *
  have HF := Lib.hid (show (List.range N).map (rowB (bt s) s.size (.bin nd a b)) = rowsL s (.bin nd a b) by rw [← hNe]; rfl)
  have HAt := Lib.hid (fun i (h : i < N) => (atS_get (xs := rowsL s a) (m := i) (by rw [rowsL_len, hNe]; exact h)).trans (congrArg some (atS_rows s a i)))
  have HBt := Lib.hid (fun i (h : i < N) => (atS_get (xs := rowsL s b) (m := i) (by rw [rowsL_len, hNe]; exact h)).trans (congrArg some (atS_rows s b i)))
  have hN5 : N ≤ 512 := by omega
  clear hNe hN hN'
  go_enter Tryd.func54, Tryd.ntmps54
  go_wp2_with (first | simp only [hmk])
  go_loopw [8, 9, 10, 11] (fun v8 _ _ _ wr => ∃ i : Nat, v8 = .int .i64 i ∧ i ≤ N ∧ Hid (Own tySet 31 w.heap.size No wr (upTo N (rowB (bt s) s.size (.bin nd a b)) i) (.slice (some ⟨w.heap.size, 0, none⟩) N N)) ∧ Ext w wr) (fun v8 _ _ _ _ => N - (intOf v8).toNat)
  case atStart => exact ⟨0, rfl, by omega, Lib.hid (by rw [upTo_zero]; exact h0), (Ext.refl w).alloc _⟩
  case round =>
    clear h0 hmk
    obtain ⟨i, rfl, hi, HO, he⟩ := hrel
    by_cases hlt : i < N
    · have hin : decide ((i : Int) < N) = true := decide_eq_true (by omega)
      have HKi := Lib.hid (HK.out i)
      have HAi := Lib.hid (HAt.out i hlt)
      have HBi := Lib.hid (HBt.out i hlt)
      go_wp2_with fail
      go_loopw [9, 10, 11] (fun v9 _ _ wr => ∃ j : Nat, v9 = .int .i64 j ∧ i ≤ j ∧ j ≤ N ∧ Hid (Own tySet 31 w.heap.size No wr ((upTo N (rowB (bt s) s.size (.bin nd a b)) i).set i (bothTo (fun m => rowB (bt s) s.size a i m && rowB (bt s) s.size b i m) i j)) (.slice (some ⟨w.heap.size, 0, none⟩) N N)) ∧ Ext w wr) (fun v9 _ _ _ => N - (intOf v9).toNat)
      case atStart => exact ⟨i, rfl, by omega, by omega, Lib.hid (by rw [show (bothTo (fun m => rowB (bt s) s.size a i m && rowB (bt s) s.size b i m) i i) = fun _ => false from bothTo_zero _ i, set_same (upTo_at hlt)]; exact HO.out), he⟩
      case round =>
        clear he HO
        obtain ⟨j, rfl, hij, hj, HO, he⟩ := hrel
        by_cases hjn : j < N
        · obtain ⟨b1, off1, rfl, hb1, d0, d1, d2, d3, d4, d5, d6, d7⟩ := rd_set (hra.ext he) HAi.out
          have HG : Hid (((upTo N (rowB (bt s) s.size (.bin nd a b)) i).set i (bothTo (fun m => rowB (bt s) s.size a i m && rowB (bt s) s.size b i m) i j))[i]? = some (bothTo (fun m => rowB (bt s) s.size a i m && rowB (bt s) s.size b i m) i j)) := Lib.hid (set_at_same (by rw [upTo_len]; exact hlt))
          have HH := Lib.hid (rhas_calls (rowB (bt s) s.size a i) (j : Int) (by omega) (by omega))
          have HH' := Lib.hid (rhas_calls (rowB (bt s) s.size b i) (j : Int) (by omega) (by omega))
          rw [Int.toNat_natCast] at HH HH'
          have HLn : Hid (i < ((upTo N (rowB (bt s) s.size (.bin nd a b)) i).set i (bothTo (fun m => rowB (bt s) s.size a i m && rowB (bt s) s.size b i m) i j)).length) := Lib.hid (by rw [List.length_set, upTo_len]; exact hlt)
          have HBj := Lib.hid (HBt.out j hjn)
          cases hx : rowB (bt s) s.size a i j with
          | true =>
            rw [hx] at HH
            cases hy : rowB (bt s) s.size b i j with
            | true =>
              rw [hy] at HH'
              have HS := Lib.hid (bothTo_put (g := fun m => rowB (bt s) s.size a i m && rowB (bt s) s.size b i m) hij (by show (_ && _) = true; rw [hx, hy]; rfl))
              have HP := Lib.hid (rput_calls (bothTo (fun m => rowB (bt s) s.size a i m && rowB (bt s) s.size b i m) i j) (j : Int) (by omega) (by omega))
              rw [HS.out] at HP
              generalize hq' : (bothTo (fun m => rowB (bt s) s.size a i m && rowB (bt s) s.size b i m) i (j + 1)) = q' at *
              replace hq' := Lib.hid hq'
              generalize (bothTo (fun m => rowB (bt s) s.size a i m && rowB (bt s) s.size b i m) i j) = q at *
              generalize (rowB (bt s) s.size a i) = p at *
              generalize (rowB (bt s) s.size b i) = pb at *
              clear hx hy
              go_wp2_with (first
                | ((go_at_call 73; (with_reducible refine (HH.out _).mono ?_); rintro e w1 ⟨rfl, h1⟩); have HB9 := (hrb.ext (he.trans h1)); obtain ⟨b2, off2, rfl, hb2, e0, e1, e2, e3, e4, e5, e6, e7⟩ := rd_set HB9 HBi.out)
                | ((go_at_call 73; (with_reducible refine (HH'.out _).mono ?_); rintro e w2 ⟨rfl, h2⟩); have HO1 := Lib.hid (HO.out.ext (h1.trans h2)); obtain ⟨hg, hc0, hc1, hc2, hc3, hc4, hc5, hc6, hc7⟩ := own_set HO1.out HG.out)
                | ((go_at_call 72; (with_reducible refine (HP.out _).mono ?_); rintro e w3 ⟨rfl, h3⟩); have HO2 := Lib.hid (HO1.out.ext h3); obtain ⟨hg2, hd0, hd1, hd2, hd3, hd4, hd5, hd6, hd7⟩ := own_set HO2.out HG.out; have hfr := HO2.out.free))
              go_roundw
              case rel =>
                have HS5 := Own.store8 (i := i) HO2.out HLn.out q'
                rw [List.set_set] at HS5
                exact ⟨j + 1, by go_num, by omega, by omega, Lib.hid (by rw [hq'.out]; exact HS5), Ext.put8 (((he.trans h1).trans h2).trans h3) (i * 8) q' (Nat.le_refl _)⟩
              case measure => simp [intOf]; omega
            | false =>
              rw [hy] at HH'
              have HS := Lib.hid (bothTo_skip (g := fun m => rowB (bt s) s.size a i m && rowB (bt s) s.size b i m) (i := i) (j := j) (by show (_ && _) = false; rw [hx, hy]; rfl))
              generalize hq' : (bothTo (fun m => rowB (bt s) s.size a i m && rowB (bt s) s.size b i m) i (j + 1)) = q' at *
              replace hq' := Lib.hid hq'
              generalize (bothTo (fun m => rowB (bt s) s.size a i m && rowB (bt s) s.size b i m) i j) = q at *
              generalize (rowB (bt s) s.size a i) = p at *
              generalize (rowB (bt s) s.size b i) = pb at *
              clear hx hy
              go_wp2_with (first
                | ((go_at_call 73; (with_reducible refine (HH.out _).mono ?_); rintro e w1 ⟨rfl, h1⟩); have HB9 := (hrb.ext (he.trans h1)); obtain ⟨b2, off2, rfl, hb2, e0, e1, e2, e3, e4, e5, e6, e7⟩ := rd_set HB9 HBi.out)
                | ((go_at_call 73; (with_reducible refine (HH'.out _).mono ?_); rintro e w2 ⟨rfl, h2⟩)))
              go_roundw
              case rel => exact ⟨j + 1, by go_num, by omega, by omega, Lib.hid (by have h9 := HO.out.ext (h1.trans h2); rw [← HS.out] at h9; rw [hq'.out]; exact h9), (he.trans h1).trans h2⟩
              case measure => simp [intOf]; omega
          | false =>
            rw [hx] at HH
            cases hy : rowB (bt s) s.size b i j with
            | true =>
              rw [hy] at HH'
              have HS := Lib.hid (bothTo_skip (g := fun m => rowB (bt s) s.size a i m && rowB (bt s) s.size b i m) (i := i) (j := j) (by show (_ && _) = false; rw [hx, hy]; rfl))
              generalize hq' : (bothTo (fun m => rowB (bt s) s.size a i m && rowB (bt s) s.size b i m) i (j + 1)) = q' at *
              replace hq' := Lib.hid hq'
              generalize (bothTo (fun m => rowB (bt s) s.size a i m && rowB (bt s) s.size b i m) i j) = q at *
              generalize (rowB (bt s) s.size a i) = p at *
              generalize (rowB (bt s) s.size b i) = pb at *
              clear hx hy
              go_wp2_with (first
                | ((go_at_call 73; (with_reducible refine (HH.out _).mono ?_); rintro e w1 ⟨rfl, h1⟩); have HB9 := (hrb.ext (he.trans h1)); obtain ⟨b2, off2, rfl, hb2, e0, e1, e2, e3, e4, e5, e6, e7⟩ := rd_set HB9 HBi.out)
                | ((go_at_call 73; (with_reducible refine (HH'.out _).mono ?_); rintro e w2 ⟨rfl, h2⟩)))
              go_roundw
              case rel => exact ⟨j + 1, by go_num, by omega, by omega, Lib.hid (by have h9 := HO.out.ext (h1.trans h2); rw [← HS.out] at h9; rw [hq'.out]; exact h9), (he.trans h1).trans h2⟩
              case measure => simp [intOf]; omega
            | false =>
              rw [hy] at HH'
              have HS := Lib.hid (bothTo_skip (g := fun m => rowB (bt s) s.size a i m && rowB (bt s) s.size b i m) (i := i) (j := j) (by show (_ && _) = false; rw [hx, hy]; rfl))
              generalize hq' : (bothTo (fun m => rowB (bt s) s.size a i m && rowB (bt s) s.size b i m) i (j + 1)) = q' at *
              replace hq' := Lib.hid hq'
              generalize (bothTo (fun m => rowB (bt s) s.size a i m && rowB (bt s) s.size b i m) i j) = q at *
              generalize (rowB (bt s) s.size a i) = p at *
              generalize (rowB (bt s) s.size b i) = pb at *
              clear hx hy
              go_wp2_with (first
                | ((go_at_call 73; (with_reducible refine (HH.out _).mono ?_); rintro e w1 ⟨rfl, h1⟩); have HB9 := (hrb.ext (he.trans h1)); obtain ⟨b2, off2, rfl, hb2, e0, e1, e2, e3, e4, e5, e6, e7⟩ := rd_set HB9 HBi.out)
                | ((go_at_call 73; (with_reducible refine (HH'.out _).mono ?_); rintro e w2 ⟨rfl, h2⟩)))
              go_roundw
              case rel => exact ⟨j + 1, by go_num, by omega, by omega, Lib.hid (by have h9 := HO.out.ext (h1.trans h2); rw [← HS.out] at h9; rw [hq'.out]; exact h9), (he.trans h1).trans h2⟩
              case measure => simp [intOf]; omega
        · have hj' : j = N := by omega
          subst hj'
          go_wp2_with fail
          go_roundw
          case rel => exact ⟨i + 1, by go_num, by omega, Lib.hid (by have h9 := HO.out; rw [HKi.out, upTo_set] at h9; exact h9), he⟩
          case measure => simp [intOf]; omega
    · have hi' : i = N := by omega
      subst hi'
      go_wp2_with fail
      go_ret
      rw [upTo_all, HF.out] at HO
      exact ⟨_, rfl, HO.out, he⟩
theorem two7_all {s : ByteArray} (hs : s.size < 512) {nd : Nd} (hk : nd.k = 7) (a b : T) (i : Nat) : thruTo (rowB (bt s) s.size a i) (rowB (bt s) s.size b) (s.size + 1) = rowB (bt s) s.size (.bin nd a b) i := by
    obtain ⟨k, sg⟩ := nd
    obtain rfl : k = 7 := hk
    rw [← concat_thru hs a b i]
    exact thru_end (by omega) (fun m h1 h2 => by
      cases h : rowB (bt s) s.size a i m
      · rfl
      · have := rowB_iff.1 h; omega)
set_option maxHeartbeats 8000000 in
set_option maxRecDepth 100000 in
theorem rtwo7_rows (s : ByteArray) (hs : s.size < 512) (nd : Nd) (hk : nd.k = 7) (a b : T) (va vb : Value) (w : World) (hra : Rd tySet w (rowsL s a) va) (hrb : Rd tySet w (rowsL s b) vb) :
    Calls Tryd.prog 54 #[.int .i64 7, va, vb] w (RowsPost s (.bin nd a b) w) := by
  obtain ⟨A, c, rfl, hlc, hcm⟩ := hra.shape
  obtain ⟨A', c', rfl, hlc', hcm'⟩ := hrb.shape
  unfold maxLen at hcm hcm'
  have HK := Lib.hid (fun i => two7_all (s := s) hs hk a b i)
  clear hk
  have hN : (rowsL s a).length = s.size + 1 := rowsL_len s a
  have hN' : (rowsL s b).length = s.size + 1 := rowsL_len s b
  have hmk := fun W => mk_sets (s.size + 1) W (by omega)
  have h0 := own_made (w := w) w.heap.size (s.size + 1) (Nat.le_refl _) (by omega)
  rw [hN] at *
  rw [hN'] at *
  generalize hNe : s.size + 1 = N at *
  have HF := Lib.hid (show (List.range N).map (rowB (bt s) s.size (.bin nd a b)) = rowsL s (.bin nd a b) by rw [← hNe]; rfl)
  have HAt := Lib.hid (fun i (h : i < N) => (atS_get (xs := rowsL s a) (m := i) (by rw [rowsL_len, hNe]; exact h)).trans (congrArg some (atS_rows s a i)))
  have HBt := Lib.hid (fun i (h : i < N) => (atS_get (xs := rowsL s b) (m := i) (by rw [rowsL_len, hNe]; exact h)).trans (congrArg some (atS_rows s b i)))
  have hN5 : N ≤ 512 := by omega
  clear hNe hN hN'
  go_enter Tryd.func54, Tryd.ntmps54
  go_wp2_with (first | simp only [hmk])
  go_loopw [8, 9, 10, 11] (fun v8 _ _ _ wr => ∃ i : Nat, v8 = .int .i64 i ∧ i ≤ N ∧ Hid (Own tySet 31 w.heap.size No wr (upTo N (rowB (bt s) s.size (.bin nd a b)) i) (.slice (some ⟨w.heap.size, 0, none⟩) N N)) ∧ Ext w wr) (fun v8 _ _ _ _ => N - (intOf v8).toNat)
  case atStart => exact ⟨0, rfl, by omega, Lib.hid (by rw [upTo_zero]; exact h0), (Ext.refl w).alloc _⟩
  case round =>
    clear h0 hmk
    obtain ⟨i, rfl, hi, HO, he⟩ := hrel
    by_cases hlt : i < N
    · have hin : decide ((i : Int) < N) = true := decide_eq_true (by omega)
      have HKi := Lib.hid (HK.out i)
      have HAi := Lib.hid (HAt.out i hlt)
      have HBi := Lib.hid (HBt.out i hlt)
      go_wp2_with fail
      go_loopw [9, 10, 11] (fun v9 _ _ wr => ∃ j : Nat, v9 = .int .i64 j ∧ i ≤ j ∧ j ≤ N ∧ Hid (Own tySet 31 w.heap.size No wr ((upTo N (rowB (bt s) s.size (.bin nd a b)) i).set i (thruTo (rowB (bt s) s.size a i) (rowB (bt s) s.size b) j)) (.slice (some ⟨w.heap.size, 0, none⟩) N N)) ∧ Ext w wr) (fun v9 _ _ _ => N - (intOf v9).toNat)
      case atStart => exact ⟨i, rfl, by omega, by omega, Lib.hid (by rw [show (thruTo (rowB (bt s) s.size a i) (rowB (bt s) s.size b) i) = fun _ => false from thru_none (fun k h => (rowB_iff.1 h).1), set_same (upTo_at hlt)]; exact HO.out), he⟩
      case round =>
        clear he HO
        obtain ⟨j, rfl, hij, hj, HO, he⟩ := hrel
        by_cases hjn : j < N
        · obtain ⟨b1, off1, rfl, hb1, d0, d1, d2, d3, d4, d5, d6, d7⟩ := rd_set (hra.ext he) HAi.out
          have HG : Hid (((upTo N (rowB (bt s) s.size (.bin nd a b)) i).set i (thruTo (rowB (bt s) s.size a i) (rowB (bt s) s.size b) j))[i]? = some (thruTo (rowB (bt s) s.size a i) (rowB (bt s) s.size b) j)) := Lib.hid (set_at_same (by rw [upTo_len]; exact hlt))
          have HH := Lib.hid (rhas_calls (rowB (bt s) s.size a i) (j : Int) (by omega) (by omega))
          have HH' := Lib.hid (rhas_calls (rowB (bt s) s.size b i) (j : Int) (by omega) (by omega))
          rw [Int.toNat_natCast] at HH HH'
          have HLn : Hid (i < ((upTo N (rowB (bt s) s.size (.bin nd a b)) i).set i (thruTo (rowB (bt s) s.size a i) (rowB (bt s) s.size b) j)).length) := Lib.hid (by rw [List.length_set, upTo_len]; exact hlt)
          have HBj := Lib.hid (HBt.out j hjn)
          cases hx : rowB (bt s) s.size a i j with
          | true =>
            rw [hx] at HH
            cases hy : rowB (bt s) s.size b i j with
            | true =>
              rw [hy] at HH'
              have HS := Lib.hid (thru_step (r := rowB (bt s) s.size b) (Nat.le_refl j) hx (fun k h1 h2 => by omega))
              have HJ := Lib.hid (rjoin_calls (thruTo (rowB (bt s) s.size a i) (rowB (bt s) s.size b) j) (rowB (bt s) s.size b j))
              rw [← HS.out] at HJ
              generalize hq' : (thruTo (rowB (bt s) s.size a i) (rowB (bt s) s.size b) (j + 1)) = q' at *
              replace hq' := Lib.hid hq'
              generalize (thruTo (rowB (bt s) s.size a i) (rowB (bt s) s.size b) j) = q at *
              generalize (rowB (bt s) s.size a i) = p at *
              generalize (rowB (bt s) s.size b i) = pb at *
              generalize rowB (bt s) s.size b j = pj at *
              clear hx hy HS
              go_wp2_with (first
                | ((go_at_call 73; (with_reducible refine (HH.out _).mono ?_); rintro e w1 ⟨rfl, h1⟩); have HB9 := (hrb.ext (he.trans h1)); obtain ⟨b2, off2, rfl, hb2, e0, e1, e2, e3, e4, e5, e6, e7⟩ := rd_set HB9 HBi.out)
                | ((go_at_call 73; (with_reducible refine (HH'.out _).mono ?_); rintro e w2 ⟨rfl, h2⟩); have HO1 := Lib.hid (HO.out.ext (h1.trans h2)); obtain ⟨hg, hc0, hc1, hc2, hc3, hc4, hc5, hc6, hc7⟩ := own_set HO1.out HG.out; obtain ⟨b3, off3, eb3, hb3, f0, f1, f2, f3, f4, f5, f6, f7⟩ := rd_set (HB9.ext h2) HBj.out; obtain ⟨rfl, rfl⟩ : b3 = b2 ∧ off3 = off2 := by cases eb3; exact ⟨rfl, rfl⟩))
              go_region_with ((go_at_call 74; (with_reducible refine (HJ.out _).mono ?_); rintro e w3 ⟨rfl, h3⟩); have h3' := Ext.undrew h3; have HO2 := Lib.hid (HO1.out.ext h3'); obtain ⟨hg2, hd0, hd1, hd2, hd3, hd4, hd5, hd6, hd7⟩ := own_set HO2.out HG.out; have hfr := HO2.out.free)
              all_goals
                go_wp2_with fail
                go_roundw
                case rel =>
                  have HS5 := Own.store8 (i := i) HO2.out HLn.out q'
                  rw [List.set_set] at HS5
                  exact ⟨j + 1, by go_num, by omega, by omega, Lib.hid (by rw [hq'.out]; exact HS5), Ext.put8 (((he.trans h1).trans h2).trans h3') (i * 8) q' (Nat.le_refl _)⟩
                case measure => simp [intOf]; omega
            | false =>
              rw [hy] at HH'
              have HS := Lib.hid (thru_step (r := rowB (bt s) s.size b) (Nat.le_refl j) hx (fun k h1 h2 => by omega))
              have HJ := Lib.hid (rjoin_calls (thruTo (rowB (bt s) s.size a i) (rowB (bt s) s.size b) j) (rowB (bt s) s.size b j))
              rw [← HS.out] at HJ
              generalize hq' : (thruTo (rowB (bt s) s.size a i) (rowB (bt s) s.size b) (j + 1)) = q' at *
              replace hq' := Lib.hid hq'
              generalize (thruTo (rowB (bt s) s.size a i) (rowB (bt s) s.size b) j) = q at *
              generalize (rowB (bt s) s.size a i) = p at *
              generalize (rowB (bt s) s.size b i) = pb at *
              generalize rowB (bt s) s.size b j = pj at *
              clear hx hy HS
              go_wp2_with (first
                | ((go_at_call 73; (with_reducible refine (HH.out _).mono ?_); rintro e w1 ⟨rfl, h1⟩); have HB9 := (hrb.ext (he.trans h1)); obtain ⟨b2, off2, rfl, hb2, e0, e1, e2, e3, e4, e5, e6, e7⟩ := rd_set HB9 HBi.out)
                | ((go_at_call 73; (with_reducible refine (HH'.out _).mono ?_); rintro e w2 ⟨rfl, h2⟩); have HO1 := Lib.hid (HO.out.ext (h1.trans h2)); obtain ⟨hg, hc0, hc1, hc2, hc3, hc4, hc5, hc6, hc7⟩ := own_set HO1.out HG.out; obtain ⟨b3, off3, eb3, hb3, f0, f1, f2, f3, f4, f5, f6, f7⟩ := rd_set (HB9.ext h2) HBj.out; obtain ⟨rfl, rfl⟩ : b3 = b2 ∧ off3 = off2 := by cases eb3; exact ⟨rfl, rfl⟩))
              go_region_with ((go_at_call 74; (with_reducible refine (HJ.out _).mono ?_); rintro e w3 ⟨rfl, h3⟩); have h3' := Ext.undrew h3; have HO2 := Lib.hid (HO1.out.ext h3'); obtain ⟨hg2, hd0, hd1, hd2, hd3, hd4, hd5, hd6, hd7⟩ := own_set HO2.out HG.out; have hfr := HO2.out.free)
              all_goals
                go_wp2_with fail
                go_roundw
                case rel =>
                  have HS5 := Own.store8 (i := i) HO2.out HLn.out q'
                  rw [List.set_set] at HS5
                  exact ⟨j + 1, by go_num, by omega, by omega, Lib.hid (by rw [hq'.out]; exact HS5), Ext.put8 (((he.trans h1).trans h2).trans h3') (i * 8) q' (Nat.le_refl _)⟩
                case measure => simp [intOf]; omega
          | false =>
            rw [hx] at HH
            cases hy : rowB (bt s) s.size b i j with
            | true =>
              rw [hy] at HH'
              have HS := Lib.hid (thru_skip (r := rowB (bt s) s.size b) hx)
              generalize hq' : (thruTo (rowB (bt s) s.size a i) (rowB (bt s) s.size b) (j + 1)) = q' at *
              replace hq' := Lib.hid hq'
              generalize (thruTo (rowB (bt s) s.size a i) (rowB (bt s) s.size b) j) = q at *
              generalize (rowB (bt s) s.size a i) = p at *
              generalize (rowB (bt s) s.size b i) = pb at *
              clear hx hy
              go_wp2_with (first
                | ((go_at_call 73; (with_reducible refine (HH.out _).mono ?_); rintro e w1 ⟨rfl, h1⟩); have HB9 := (hrb.ext (he.trans h1)); obtain ⟨b2, off2, rfl, hb2, e0, e1, e2, e3, e4, e5, e6, e7⟩ := rd_set HB9 HBi.out)
                | ((go_at_call 73; (with_reducible refine (HH'.out _).mono ?_); rintro e w2 ⟨rfl, h2⟩)))
              go_roundw
              case rel => exact ⟨j + 1, by go_num, by omega, by omega, Lib.hid (by have h9 := HO.out.ext (h1.trans h2); rw [← HS.out] at h9; rw [hq'.out]; exact h9), (he.trans h1).trans h2⟩
              case measure => simp [intOf]; omega
            | false =>
              rw [hy] at HH'
              have HS := Lib.hid (thru_skip (r := rowB (bt s) s.size b) hx)
              generalize hq' : (thruTo (rowB (bt s) s.size a i) (rowB (bt s) s.size b) (j + 1)) = q' at *
              replace hq' := Lib.hid hq'
              generalize (thruTo (rowB (bt s) s.size a i) (rowB (bt s) s.size b) j) = q at *
              generalize (rowB (bt s) s.size a i) = p at *
              generalize (rowB (bt s) s.size b i) = pb at *
              clear hx hy
              go_wp2_with (first
                | ((go_at_call 73; (with_reducible refine (HH.out _).mono ?_); rintro e w1 ⟨rfl, h1⟩); have HB9 := (hrb.ext (he.trans h1)); obtain ⟨b2, off2, rfl, hb2, e0, e1, e2, e3, e4, e5, e6, e7⟩ := rd_set HB9 HBi.out)
                | ((go_at_call 73; (with_reducible refine (HH'.out _).mono ?_); rintro e w2 ⟨rfl, h2⟩)))
              go_roundw
              case rel => exact ⟨j + 1, by go_num, by omega, by omega, Lib.hid (by have h9 := HO.out.ext (h1.trans h2); rw [← HS.out] at h9; rw [hq'.out]; exact h9), (he.trans h1).trans h2⟩
              case measure => simp [intOf]; omega
        · have hj' : j = N := by omega
          subst hj'
          go_wp2_with fail
          go_roundw
          case rel => exact ⟨i + 1, by go_num, by omega, Lib.hid (by have h9 := HO.out; rw [HKi.out, upTo_set] at h9; exact h9), he⟩
          case measure => simp [intOf]; omega
    · have hi' : i = N := by omega
      subst hi'
      go_wp2_with fail
      go_ret
      rw [upTo_all, HF.out] at HO
      exact ⟨_, rfl, HO.out, he⟩
end Go.Proofs.YtdeppnamhdbbhaaDoor
namespace Go.Eg
open Go.RowKit
/-- A row of one's own is laid into a row of rows. -/
theorem Own2.put {α : Type} {t : Ty α} {e1 e base : Nat} {wo w : World} {xss : List (List α)} {g n c i : Nat} (h : Own2 t e1 e base wo xss (.slice (some ⟨g, 0, none⟩) n c)) (hext : Ext wo w) (hi : i < xss.length) {x' : List α} {u : Value}
    (hu : Own t e base No w x' u) (hub : ∀ k, u.ownBlock = some k → wo.heap.size ≤ k) : Own2 t e1 e base (w.setCell ⟨g, i, none⟩ u) (xss.set i x') (.slice (some ⟨g, 0, none⟩) n c) := by
  obtain ⟨vs, ho, hel, hd⟩ := h
  have hgl : g < wo.heap.size := (ho.lt g rfl).2
  have hn : n = xss.length := by
    rcases ho.2 with ⟨h', _⟩ | ⟨g', cap', cur, h', _⟩
    · cases h'
    · cases h'; rfl
  subst hn
  have hvl : vs.length = xss.length := by rw [ho.1, Nat.mul_one]
  have how : w.ownsRow base e1 1 (.slice (some ⟨g, 0, none⟩) xss.length c) xss.length vs := ho.kept (hext.grownBy none) (.inr (by simp [Value.ownBlock]))
  obtain ⟨hs, hg⟩ := how.stored i u
  have old : ∀ {j : Nat} {q : Value}, vs[j]? = some q → ∀ k, q.ownBlock = some k → k < wo.heap.size := fun {j q} hq k hk => by
    have hj : j < xss.length := by rw [← hvl]; exact (List.getElem?_eq_some_iff.1 hq).1
    obtain ⟨q', hq', hoq, _⟩ := hel j xss[j] (List.getElem?_eq_getElem hj)
    rw [hq] at hq'
    cases hq'
    exact (hoq.block k hk).2
  refine ⟨vs.set i u, by rw [List.length_set]; exact hs, fun j y hy => ?_, fun j j' p q hjj hp hq k hk hk' => ?_⟩
  · rw [List.getElem?_set] at hy
    split at hy
    · rename_i e
      subst e
      try rw [if_pos hi] at hy
      cases hy
      refine ⟨u, by rw [List.getElem?_set]; simp [hvl, hi], hu.other hg (fun k hk e => ?_) (fun _ h => h.elim), fun k hk e => ?_⟩
      · cases e; have := hub g hk; omega
      · cases e; have := hub g hk; omega
    · rename_i e
      obtain ⟨q, hq, hoq, hne⟩ := hel j y hy
      exact ⟨q, by rw [List.getElem?_set_ne e]; exact hq, (hoq.ext hext).other hg (fun k hk e => by cases e; exact hne g hk rfl) (fun _ h => h.elim), hne⟩
  · rw [List.getElem?_set] at hp hq
    split at hp
    · rename_i e
      subst e
      rw [if_neg hjj] at hq
      try rw [if_pos (by rw [hvl]; exact hi)] at hp
      cases hp
      have := hub k hk
      have := old hq k hk'
      omega
    · split at hq
      · rename_i e
        subst e
        try rw [if_pos (by rw [hvl]; exact hi)] at hq
        cases hq
        have := hub k hk'
        have := old hp k hk
        omega
      · exact hd j j' p q hjj hp hq k hk hk'
end Go.Eg
namespace Go.Proofs.YtdeppnamhdbbhaaDoor
open Go.RowKit Go.Eg

theorem sv_swap {β : Type} (f : T → β) (a x : T) (S : List T) : (sv f (a :: S)).set S.length (f x) = sv f (x :: S) := by
  rw [sv_push, sv_push]
  have h := sv_len f S
  rw [List.set_append_right _ _ (by omega), h, Nat.sub_self]
  rfl
set_option maxHeartbeats 16000000 in
set_option maxRecDepth 100000 in
theorem rall_calls (x : T) (hx : x.wf) (t : List Nd) (ht : t = x.flat) (hlen : t.length ≤ 4000) (v : Value) (s : ByteArray) (hs : s.size < 512) (w : World) (hr : Rd tyNd w t v) :
    Calls Tryd.prog 40 #[v, .string s] w fun e w' => ∃ v', e = .returned v' ∧ Rd tySet w' (rowsL s x) v' ∧ Ext w w' := by
  obtain ⟨A, c, rfl, hlc, hcm⟩ := hr.shape
  unfold maxLen at hcm
  have hst := St.start (t := t) (by rw [ht]; exact ok_tree hx)
  have HTx := Lib.hid ht
  clear ht
  go_enter Tryd.func40, Tryd.ntmps40
  go_wp2_with fail
  go_loopw [5, 6, 7, 8, 9] (fun v5 v6 _ _ _ wr => ∃ (i : Nat) (S : List T), v6 = .int .i64 i ∧ i ≤ t.length ∧ Hid (St t i S) ∧ Hid (Own2 tySet 56 31 w.heap.size wr (sv (rowsL s) S) v5) ∧ Ext w wr) (fun _ v6 _ _ _ _ => t.length - (intOf v6).toNat)
  case atStart => exact ⟨0, [], rfl, by omega, Lib.hid hst, Lib.hid (Own2.nil _ _ _ _ _), Ext.refl _⟩
  case round =>
    clear hst
    obtain ⟨i, S, rfl, hi, HST, HO, he⟩ := hrel
    by_cases hlt : i < t.length
    · obtain ⟨b, off, rfl, hb, hc0, hc1⟩ := rd_node (hr.ext he) hlt
      obtain ⟨hg, hle, hpush, hst'⟩ := HST.out.next hlt
      have HST' := Lib.hid hst'
      have hSl := HST.out.len
      have hkk := good_kind hg
      generalize nth t i = nd at *
      clear hst' hr HST
      have hlt' : decide ((i : Int) < t.length) = true := decide_eq_true (by omega)
      have hbase := he.le
      obtain ⟨A5, c5, rfl, hl5, hm5⟩ := HO.out.shape
      rw [sv_len] at *
      generalize hP : push nd S = P at *
      cases hpush with
      | leaf _ har =>
        have hk4 : nd.k ≤ 4 := by unfold ar at har; split at har; omega; split at har; omega; split at har <;> omega
        have b5 : (nd.k == 5) = false := beq_eq_false_iff_ne.2 (by omega)
        have b6 : (nd.k == 6) = false := beq_eq_false_iff_ne.2 (by omega)
        have b7 : (nd.k == 7) = false := beq_eq_false_iff_ne.2 (by omega)
        have b8 : (nd.k == 8) = false := beq_eq_false_iff_ne.2 (by omega)
        have b9 : (nd.k == 9) = false := beq_eq_false_iff_ne.2 (by omega)
        have H1 := Lib.hid (rone_calls s hs nd hkk.1 hk4)
        have HV : Hid (sv (rowsL s) (.leaf nd :: S) = sv (rowsL s) S ++ [rowsL s (.leaf nd)]) := Lib.hid (sv_push _ _ _)
        have hl4 : (sv (rowsL s) S).length ≤ 4000 := by rw [sv_len]; omega
        clear hkk hk4 har hle hP hg
        go_wp2_with (first
          | ((go_at_call 55; (with_reducible refine (H1.out _).mono ?_); rintro e w1 ⟨v1, rfl, ho1, h1⟩); obtain ⟨A1, c1, rfl, _, _⟩ := ho1.shape)
          | ((with_reducible refine gate_bi .append #[.tmp 29, .tmp 31] ?_); refine wp_append2 (t := tySet) 56 31 w.heap.size 24 elRefs (.slice A5 S.length c5) (sv (rowsL s) S) rfl wr HO.out (h1.alloc _) (rowsL s (.leaf nd)) _ ((own_low ho1 hbase).ext ((Ext.refl _).alloc _)) (fun k hk => ho1.lo k hk) ⟨w1.heap.size, 0, none⟩ 1 rfl (by simp) (by omega) (by decide) (Nat.le_trans hbase (h1.alloc _).le) ?_; intro v3 w3 ho3 hg3 hat3))
        have E1 := h1.alloc (.cells #[.slice A1 (rowsL s (.leaf nd)).length c1] 56)
        have hE3 := (he.trans E1).grown hg3 (fun k hk => by have := (HO.out.block k hk).1; exact this)
        go_roundw
        case rel => exact ⟨i + 1, _, by go_num, by omega, HST', Lib.hid (by rw [HV.out]; exact ho3), hE3⟩
        case measure => simp [intOf]; omega
      | un a S' har =>
        have hk89 : nd.k = 8 ∨ nd.k = 9 := by unfold ar at har; split at har; omega; split at har; omega; split at har <;> omega
        obtain ⟨g, u, rfl, hgb, hgl, hcell, hfr, hou, hune⟩ := HO.out.get (sv_top (rowsL s) a S')
        have hn1 : ((a :: S').length : Int) - 1 = (S'.length : Int) := by simp
        have hn2 : ((a :: S').length : Int) = (S'.length : Int) + 1 := by simp
        have hn3 : (a :: S').length = S'.length + 1 := rfl
        rw [hn3] at *
        have hl4 : S'.length < (sv (rowsL s) (a :: S')).length := by rw [sv_len]; simp
        have HSW := Lib.hid (fun y => sv_swap (rowsL s) a y S')
        obtain ⟨Au, cu, rfl, hlu, _⟩ := hou.shape
        rcases hk89 with e | e
        · have b8 : (nd.k == 8) = true := beq_iff_eq.2 e
          have H1 := Lib.hid (rstar_rows s hs nd e a _ wr hou.rd)
          clear e hkk har hle hP hg
          go_wp2_with ((go_at_call 52; (with_reducible refine (H1.out).mono ?_); rintro e w1 ⟨v1, rfl, ho1, h1⟩); obtain ⟨A1, c1, rfl, _, _⟩ := ho1.shape; have hcell1 := (h1.cell _ _ hgl).trans hcell; have hfr1 := (h1.frozens _ _ hgl).trans hfr)
          go_roundw
          case rel =>
            have hP2 := Own2.put HO.out h1 hl4 (own_low ho1 hbase) (fun k hk => ho1.lo k hk)
            rw [HSW.out] at hP2
            exact ⟨i + 1, _, by go_num, by omega, HST', Lib.hid hP2, (he.trans h1).set hgb _⟩
          case measure => simp [intOf]; omega
        · have b8 : (nd.k == 8) = false := beq_eq_false_iff_ne.2 (by omega)
          have b9 : (nd.k == 9) = true := beq_iff_eq.2 e
          have H1 := Lib.hid (rnot_rows s hs nd e a _ wr hou.rd)
          clear e hkk har hle hP hg
          go_wp2_with ((go_at_call 53; (with_reducible refine (H1.out).mono ?_); rintro e w1 ⟨v1, rfl, ho1, h1⟩); obtain ⟨A1, c1, rfl, _, _⟩ := ho1.shape; have hcell1 := (h1.cell _ _ hgl).trans hcell; have hfr1 := (h1.frozens _ _ hgl).trans hfr)
          go_roundw
          case rel =>
            have hP2 := Own2.put HO.out h1 hl4 (own_low ho1 hbase) (fun k hk => ho1.lo k hk)
            rw [HSW.out] at hP2
            exact ⟨i + 1, _, by go_num, by omega, HST', Lib.hid hP2, (he.trans h1).set hgb _⟩
          case measure => simp [intOf]; omega
      | bin a b' S' har =>
        have hk567 : nd.k = 5 ∨ nd.k = 6 ∨ nd.k = 7 := by unfold ar at har; split at har; omega; split at har; omega; split at har <;> omega
        obtain ⟨g, u, rfl, hgb, hgl, hcell, hfr, hou, hune⟩ := HO.out.get (i := S'.length) (x := rowsL s a) (by rw [sv_push, sv_push, List.append_assoc, List.getElem?_append_right (by rw [sv_len]; omega), sv_len]; simp)
        obtain ⟨g', u', e', _, _, hcell', hfr', hou', hune'⟩ := HO.out.get (i := S'.length + 1) (x := rowsL s b') (sv_top (rowsL s) b' (a :: S'))
        cases e'
        have hSl2 : S'.length + 2 ≤ i := by simpa using hSl
        have hl52 : S'.length + 2 ≤ c5 := by simpa using hl5
        have hn3 : (b' :: a :: S').length = S'.length + 2 := rfl
        rw [hn3] at *
        have hm1 : (S'.length : Int) + 2 - 2 = S'.length := by omega
        have hm2 : (S'.length : Int) + 2 - 1 = (S'.length : Int) + 1 := by omega
        have hw1 : IntKind.i64.wrap (S'.length : Int) = S'.length := IntWalk.i64_in _ (by omega)
        have hw2 : IntKind.i64.wrap ((S'.length : Int) + 1) = (S'.length : Int) + 1 := IntWalk.i64_in _ (by omega)
        have hw3 : IntKind.i64.wrap ((S'.length : Int) + 2 - 1) = (S'.length : Int) + 1 := by rw [hm2]; exact hw2
        have ht1 : ((S'.length : Int) + 1).toNat = S'.length + 1 := by omega
        have ht2 : ¬ ((S'.length : Int) + 1 < 0) := by omega
        have ht3 : (0 : Int) ≤ (S'.length : Int) + 1 := by omega
        have ht4 : ¬ ((S'.length : Int) + 2 ≤ (S'.length : Int) + 1) := by omega
        have hm3 : (S'.length : Int) + 1 < (S'.length : Int) + 2 := by omega
        have hm4 : (S'.length : Int) < (S'.length : Int) + 2 := by omega
        obtain ⟨Au, cu, rfl, hlu, _⟩ := hou.shape
        obtain ⟨Au', cu', rfl, hlu', _⟩ := hou'.shape
        have htk : (sv (rowsL s) (b' :: a :: S')).take S'.length = sv (rowsL s) S' := by
          rw [sv_push, sv_push, List.append_assoc]; exact List.take_left' (sv_len _ _)
        have HTk := Lib.hid (HO.out.take rfl S'.length (by rw [sv_len]; simp; omega))
        rw [htk] at HTk
        have hl4 : (sv (rowsL s) S').length ≤ 4000 := by rw [sv_len]; omega
        have HV : Hid (sv (rowsL s) (.bin nd a b' :: S') = sv (rowsL s) S' ++ [rowsL s (.bin nd a b')]) := Lib.hid (sv_push _ _ _)
        have hsl : ¬ ((c5 : Int) < (S'.length : Int)) := by omega
        have hsl2 : S'.length ≤ c5 := by omega
        rcases hk567 with e | e | e
        · have H1 := Lib.hid (fun w' (hE : Ext wr w') => rtwo5_rows s hs nd e a b' _ _ w' (hou.rd.ext hE) (hou'.rd.ext hE))
          rw [e] at hc0
          clear e hkk har hle hP hg htk
          go_wp2_with fail
          go_still_tail 15, (by kernel_rfl)
          change wpList _ _ _ _ _ wr.drew
          have hd : Ext wr wr.drew := (Ext.refl _).drew
          generalize wr.drew = wd9 at *
          go_wp2_with (first
            | ((go_at_call 54; (with_reducible refine (H1.out _ hd).mono ?_); rintro e w1 ⟨v1, rfl, ho1, h1⟩); obtain ⟨A1, c1, rfl, _, _⟩ := ho1.shape)
            | ((with_reducible refine gate_bi .append #[.tmp 80, .tmp 82] ?_); refine wp_append2 (t := tySet) 56 31 w.heap.size 24 elRefs (.slice (some ⟨g, 0, none⟩) S'.length c5) (sv (rowsL s) S') rfl wr HTk.out ((hd.trans h1).alloc _) (rowsL s (.bin nd a b')) _ ((own_low ho1 (Nat.le_trans hbase hd.le)).ext ((Ext.refl _).alloc _)) (fun k hk => Nat.le_trans hd.le (ho1.lo k hk)) ⟨w1.heap.size, 0, none⟩ 1 rfl (by simp) (by omega) (by decide) (Nat.le_trans hbase ((hd.trans h1).alloc _).le) ?_; intro v3 w3 ho3 hg3 hat3))
          have E1 := (hd.trans h1).alloc (.cells #[.slice A1 (rowsL s (.bin nd a b')).length c1] 56)
          have hE3 := (he.trans E1).grown hg3 (fun k hk => by cases hk; exact hgb)
          go_roundw
          case rel => exact ⟨i + 1, _, by go_num, by omega, HST', Lib.hid (by rw [HV.out]; exact ho3), hE3⟩
          case measure => simp [intOf]; omega

        · have H1 := Lib.hid (fun w' (hE : Ext wr w') => rtwo6_rows s hs nd e a b' _ _ w' (hou.rd.ext hE) (hou'.rd.ext hE))
          rw [e] at hc0
          clear e hkk har hle hP hg htk
          go_wp2_with fail
          go_still_tail 15, (by kernel_rfl)
          change wpList _ _ _ _ _ wr.drew
          have hd : Ext wr wr.drew := (Ext.refl _).drew
          generalize wr.drew = wd9 at *
          go_wp2_with (first
            | ((go_at_call 54; (with_reducible refine (H1.out _ hd).mono ?_); rintro e w1 ⟨v1, rfl, ho1, h1⟩); obtain ⟨A1, c1, rfl, _, _⟩ := ho1.shape)
            | ((with_reducible refine gate_bi .append #[.tmp 80, .tmp 82] ?_); refine wp_append2 (t := tySet) 56 31 w.heap.size 24 elRefs (.slice (some ⟨g, 0, none⟩) S'.length c5) (sv (rowsL s) S') rfl wr HTk.out ((hd.trans h1).alloc _) (rowsL s (.bin nd a b')) _ ((own_low ho1 (Nat.le_trans hbase hd.le)).ext ((Ext.refl _).alloc _)) (fun k hk => Nat.le_trans hd.le (ho1.lo k hk)) ⟨w1.heap.size, 0, none⟩ 1 rfl (by simp) (by omega) (by decide) (Nat.le_trans hbase ((hd.trans h1).alloc _).le) ?_; intro v3 w3 ho3 hg3 hat3))
          have E1 := (hd.trans h1).alloc (.cells #[.slice A1 (rowsL s (.bin nd a b')).length c1] 56)
          have hE3 := (he.trans E1).grown hg3 (fun k hk => by cases hk; exact hgb)
          go_roundw
          case rel => exact ⟨i + 1, _, by go_num, by omega, HST', Lib.hid (by rw [HV.out]; exact ho3), hE3⟩
          case measure => simp [intOf]; omega

        · have H1 := Lib.hid (fun w' (hE : Ext wr w') => rtwo7_rows s hs nd e a b' _ _ w' (hou.rd.ext hE) (hou'.rd.ext hE))
          rw [e] at hc0
          clear e hkk har hle hP hg htk
          go_wp2_with fail
          go_still_tail 15, (by kernel_rfl)
          change wpList _ _ _ _ _ wr.drew
          have hd : Ext wr wr.drew := (Ext.refl _).drew
          generalize wr.drew = wd9 at *
          go_wp2_with (first
            | ((go_at_call 54; (with_reducible refine (H1.out _ hd).mono ?_); rintro e w1 ⟨v1, rfl, ho1, h1⟩); obtain ⟨A1, c1, rfl, _, _⟩ := ho1.shape)
            | ((with_reducible refine gate_bi .append #[.tmp 80, .tmp 82] ?_); refine wp_append2 (t := tySet) 56 31 w.heap.size 24 elRefs (.slice (some ⟨g, 0, none⟩) S'.length c5) (sv (rowsL s) S') rfl wr HTk.out ((hd.trans h1).alloc _) (rowsL s (.bin nd a b')) _ ((own_low ho1 (Nat.le_trans hbase hd.le)).ext ((Ext.refl _).alloc _)) (fun k hk => Nat.le_trans hd.le (ho1.lo k hk)) ⟨w1.heap.size, 0, none⟩ 1 rfl (by simp) (by omega) (by decide) (Nat.le_trans hbase ((hd.trans h1).alloc _).le) ?_; intro v3 w3 ho3 hg3 hat3))
          have E1 := (hd.trans h1).alloc (.cells #[.slice A1 (rowsL s (.bin nd a b')).length c1] 56)
          have hE3 := (he.trans E1).grown hg3 (fun k hk => by cases hk; exact hgb)
          go_roundw
          case rel => exact ⟨i + 1, _, by go_num, by omega, HST', Lib.hid (by rw [HV.out]; exact ho3), hE3⟩
          case measure => simp [intOf]; omega
    · have hi' : i = t.length := by omega
      subst hi'
      obtain ⟨x', rfl, hxw, hxf⟩ := HST.out.done
      obtain rfl : x' = x := flat_inj hxw hx (hxf.trans HTx.out)
      obtain ⟨A5, c5, rfl, hl5, hm5⟩ := HO.out.shape
      obtain ⟨g, u, rfl, hgb, hgl, hcell, hfr, hou, hune⟩ := HO.out.get (i := 0) (x := rowsL s x') rfl
      have e2 : (sv (rowsL s) [x']).length = 1 := rfl
      rw [e2] at *
      go_wp2_with fail
      go_ret
      exact ⟨_, rfl, hou.rd, he⟩
theorem all_ok (t : List Nd) (v : Value) (s : ByteArray) (W : World) (hr : Rd tyNd W t v) : AllOk t v s W := fun h1 hs W' hE => by
  obtain ⟨hl4, hok⟩ := errW_ok h1
  obtain ⟨hwf, hfl⟩ := tr_of hok
  exact rall_calls (tr t) hwf t hfl.symm hl4 v s hs W' (hr.ext hE)
end Go.Proofs.YtdeppnamhdbbhaaDoor
namespace Go.Proofs.YtdeppnamhdbbhaaDoor
open Go.RowKit Go.Eg

def lettersE (k : Int) : Int := if 1 ≤ k ∧ k ≤ 8 then 0 else 20
set_option maxHeartbeats 1000000 in
theorem rLetters_calls (k : Int) (w : World) : Calls Tryd.prog 29 #[.int .i64 k] w fun e w' => e = .returned (.int .i64 (lettersE k)) ∧ w' = w := by
  by_cases h : 1 ≤ k ∧ k ≤ 8
  · have HE : Hid (lettersE k = 0) := Lib.hid (if_pos h)
    have d1 : decide (k < 1) = false := decide_eq_false (by omega)
    have d2 : decide (8 < k) = false := decide_eq_false (by omega)
    clear h
    go_enter Tryd.func29, Tryd.ntmps29
    go_wp2_with fail
    go_ret
    exact ⟨ret_int HE.out.symm, rfl⟩
  · have HE : Hid (lettersE k = 20) := Lib.hid (if_neg h)
    by_cases h1 : k < 1
    · have d1 : decide (k < 1) = true := decide_eq_true h1
      clear h h1
      go_enter Tryd.func29, Tryd.ntmps29
      go_wp2_with fail
      go_ret
      exact ⟨ret_int HE.out.symm, rfl⟩
    · have d1 : decide (k < 1) = false := decide_eq_false h1
      have d2 : decide (8 < k) = true := decide_eq_true (by omega)
      clear h h1
      go_enter Tryd.func29, Tryd.ntmps29
      go_wp2_with fail
      go_ret
      exact ⟨ret_int HE.out.symm, rfl⟩
theorem few_next (k i : Nat) : (fewTo k i).length + (lev k i).length = (allTo k i).length := by rw [← fewTo_all, fewTo, List.length_append]
set_option maxHeartbeats 2000000 in
theorem rmany_calls (k n : Nat) (hk8 : k ≤ 8) (hn : n ≤ 511) (w : World) : Calls Tryd.prog 30 #[.int .i64 (k : Int), .int .i64 (n : Int)] w fun e w' => e = .returned (.bool (decide (1000 < (allTo k n).length))) ∧ w' = w := by
  have HM := Lib.hid (fun i (h : i ≤ n) => allTo_mono k h)
  have HFN := Lib.hid (few_next k)
  have HFA := Lib.hid (fewTo_all k)
  have HLL : Hid (∀ i, (lev k (i + 1)).length = (lev k i).length * k) := Lib.hid (fun i => by rw [lev_len, lev_len, Nat.pow_succ])
  generalize hcv : (allTo k n).length = total at *
  replace hcv := Lib.hid hcv
  go_enter Tryd.func30, Tryd.ntmps30
  go_wp2_with fail
  go_loopw [5, 6, 7] (fun v5 v6 v7 w' => ∃ i : Nat, v7 = .int .i64 i ∧ i ≤ n + 1 ∧ v5 = .int .i64 (fewTo k i).length ∧ v6 = .int .i64 (lev k i).length ∧ (fewTo k i).length ≤ 1000 ∧ (lev k i).length ≤ 8000 ∧ w' = w) (fun _ _ v7 _ => n + 1 - (intOf v7).toNat)
  case atStart => exact ⟨0, rfl, by omega, rfl, rfl, by simp [fewTo], by simp [lev], rfl⟩
  case round =>
    obtain ⟨i, rfl, hi, rfl, rfl, h1, h2, rfl⟩ := hrel
    have hfn := HFN.out i
    have hll := HLL.out i
    have hfa := HFA.out i
    by_cases hlt : i ≤ n
    · have hm := HM.out i hlt
      have hsum : ((fewTo k i).length : Int) + ((lev k i).length : Int) = ((allTo k i).length : Int) := by omega
      have hmul : ((lev k i).length : Int) * (k : Int) = ((lev k (i + 1)).length : Int) := by rw [hll]; simp
      have hfs : (fewTo k (i + 1)).length = (allTo k i).length := by rw [hfa]
      have hl8 : (lev k (i + 1)).length ≤ (lev k i).length * 8 := by rw [hll]; exact Nat.mul_le_mul_left _ hk8
      have hd : decide ((i : Int) ≤ (n : Int)) = true := decide_eq_true (by omega)
      generalize (fewTo k i).length = a at *
      generalize (lev k i).length = b at *
      generalize hb' : (lev k (i + 1)).length = b' at *
      replace hb' := Lib.hid hb'
      generalize (allTo k i).length = c at *
      clear hll hfa
      by_cases hbig : 1000 < c
      · have hd2 : decide ((1000 : Int) < (c : Int)) = true := decide_eq_true (by omega)
        have hdt : decide (1000 < total) = true := decide_eq_true (by omega)
        go_wp2_with (first | rw [hsum] | rw [hmul])
        go_ret
        exact ⟨by rw [hdt]; rfl, rfl⟩
      · have hd2 : decide ((1000 : Int) < (c : Int)) = false := decide_eq_false (by omega)
        go_wp2_with (first | rw [hsum] | rw [hmul])
        go_roundw
        case rel => exact ⟨i + 1, by go_num, by omega, val_int (by omega), val_int (by rw [hb'.out]), by omega, by rw [hb'.out]; omega, by first | rfl | trivial⟩
        case measure => simp [intOf]; omega
    · obtain rfl : i = n + 1 := by omega
      have hfa' := HFA.out n
      have hdt : decide (1000 < total) = false := decide_eq_false (by rw [← hcv.out, ← hfa']; omega)
      have hd : decide (((n + 1 : Nat) : Int) ≤ (n : Int)) = false := decide_eq_false (by omega)
      go_wp2_with fail
      go_ret
      exact ⟨by rw [hdt]; rfl, rfl⟩
set_option maxHeartbeats 2000000 in
theorem sameWords_calls (xs : List ByteArray) (u v : Value) (w : World) (hu : Rd Ty.str w xs u) (hv : Rd Ty.str w xs v) :
    Calls Tryd.prog 19 #[u, v] w fun e w' => e = .returned (.bool true) ∧ Ext w w' := by
  obtain ⟨A, c, rfl, hlc, hcm⟩ := hu.shape
  obtain ⟨A', c', rfl, hlc', hcm'⟩ := hv.shape
  unfold maxLen at hcm hcm'
  go_enter Tryd.func19, Tryd.ntmps19
  go_wp2_with fail
  go_loopw [5] (fun v5 wr => ∃ i : Nat, v5 = .int .i64 i ∧ i ≤ xs.length ∧ Ext w wr) (fun v5 _ => xs.length - (intOf v5).toNat)
  case atStart => exact ⟨0, rfl, by omega, Ext.refl _⟩
  case round =>
    obtain ⟨i, rfl, hi, he⟩ := hrel
    by_cases hlt : i < xs.length
    · have hx := nthW_get hlt
      obtain ⟨b, off, rfl, hb, c0⟩ := rd_str (hu.ext he) hx
      obtain ⟨b', off', rfl, hb', c0'⟩ := rd_str (hv.ext he) hx
      generalize nthW xs i = s at *
      clear hu hv
      go_wp2_with fail
      go_quiet (fail)
      go_wp2_with fail
      go_roundw
      case rel => exact ⟨i + 1, by go_num, by omega, by (repeat (first | assumption | exact Ext.refl _ | apply Ext.alloc | apply Ext.drew | apply Ext.drewN | refine Ext.trans ?_ (by assumption)))⟩
      case measure => simp [intOf]; omega
    · have hi' : i = xs.length := by omega
      subst hi'
      go_wp2_with fail
      go_ret
      exact ⟨rfl, he⟩
end Go.Proofs.YtdeppnamhdbbhaaDoor
namespace Go.Proofs.YtdeppnamhdbbhaaDoor
open Go.RowKit Go.Eg

/-- Two rows lie in blocks of their own. -/
def ApartV (u v : Value) : Prop := ∀ k, u.ownBlock = some k → v.ownBlock ≠ some k
theorem ApartV.symm {u v : Value} (h : ApartV u v) : ApartV v u := fun k hk hk' => h k hk' hk
theorem ApartV.nil (u : Value) : ApartV u (.slice none 0 0) := fun k _ h => by cases h
theorem ApartV.grow {α : Type} {t : Ty α} {e base : Nat} {B : Nat → Prop} {w : World} {xs : List α} {u v v' : Value} (h : ApartV u v) (hu : Own t e base B w xs u) (hat : v'.ownBlock = v.ownBlock ∨ v'.ownBlock = some w.heap.size) : ApartV u v' := fun k hk hk' => by
  rcases hat with hat | hat
  · exact h k hk (hat ▸ hk')
  · rw [hat] at hk'
    have := (hu.block k hk).2
    have := Option.some.inj hk'
    omega
theorem filt_next {t : List Nd} {pre ws : List ByteArray} {j : Nat} (h : j < ws.length) : (pre ++ ws.take (j + 1)).filter (memR t) = (pre ++ ws.take j).filter (memR t) ++ if memR t (nthW ws j) then [nthW ws j] else [] := by
  have : ws.take (j + 1) = ws.take j ++ [nthW ws j] := by rw [List.take_add_one, nthW_get h]; rfl
  rw [this, ← List.append_assoc, List.filter_append]
  congr 1
  cases h : memR t (nthW ws j) <;> simp [h]
theorem conv_byte (l : Nat) (h : l < 8) (W : World) (b c : Nat) (hc : W.cell? ⟨b, 0, none⟩ = some (.int .u8 (97 + (l : Int)))) : (Go.convert 63 9 (.slice (some ⟨b, 0, none⟩) 1 c)).run Tryd.prog W = .ok (.string (chrB l)) W := by
  have hb : ((UInt8.ofNat (97 + l)).toNat : Int) = 97 + (l : Int) := by
    match l, h with
    | 0, _ | 1, _ | 2, _ | 3, _ | 4, _ | 5, _ | 6, _ | 7, _ => rfl
  exact run_convert_bytes_back (P := Tryd.prog) W 63 9 5 ⟨b, 0, none⟩ c [UInt8.ofNat (97 + l)] Tryd.underlying63 Tryd.underlying5 Tryd.underlying9 (fun j hj => by
    match j, hj with
    | 0, _ => rw [add_addr]; simp only [List.getElem_cons_zero, hb]; exact hc)
theorem str_one (W : World) (s : ByteArray) (e : TypeId) {b : Nat} (hb : b = W.heap.size) : SlP Ty.str Any (W.alloc (.cells #[.string s] e)) [s] (.slice (some ⟨b, 0, none⟩) 1 1) := by
  subst hb; exact SlP.one (t := Ty.str) s #[.string s] (fun _ _ => rfl)
theorem Own.beside {α : Type} {t : Ty α} {e base : Nat} {w w' : World} {xs : List α} {u v : Value} (h : Own t e base No w xs u) (hg : w.grownBy w' v.ownBlock) (ha : ApartV u v) : Own t e base No w' xs u :=
  h.other hg (fun k hk e => ha k hk e) (fun _ h => h.elim)
set_option maxHeartbeats 16000000 in
set_option maxRecDepth 100000 in
theorem rWords_calls (k : Int) (t : List Nd) (v : Value) (n : Int) (w : World) (hr : Rd tyNd w t v) :
    Calls Tryd.prog 18 #[.int .i64 k, v, .int .i64 n] w fun e w' => ∃ v', e = .returned (.tuple #[v', .int .i64 (wordsE k t n)]) ∧ Rd Ty.str w' (wordsL k t n) v' ∧ Ext w w' := by
  have HC := Lib.hid (rWrong_calls t v w hr)
  by_cases h1 : errW t = 0
  · by_cases h2 : 1 ≤ k ∧ k ≤ 8
    · by_cases h3 : 0 ≤ n ∧ n ≤ 511
      · obtain ⟨kk, rfl⟩ := Int.eq_ofNat_of_zero_le (show 0 ≤ k by omega)
        obtain ⟨nn, rfl⟩ := Int.eq_ofNat_of_zero_le h3.1
        have hk1 : 1 ≤ kk := by omega
        have hk8 : kk ≤ 8 := by omega
        have hn5 : nn ≤ 511 := by omega
        have HE := Lib.hid (wordsE_ok h1 hk1 hk8 hn5)
        have HL : Hid (wordsL (kk : Int) t (nn : Int) = if wordsE (kk : Int) t (nn : Int) = 0 then (allTo kk nn).filter (memR t) else []) := Lib.hid (by unfold wordsL; rw [Int.toNat_natCast, Int.toNat_natCast])
        have HLt := Lib.hid (rLetters_calls (kk : Int))
        rw [show lettersE (kk : Int) = 0 from if_pos ⟨by omega, by omega⟩] at HLt
        have HMn := Lib.hid (rmany_calls kk nn hk8 hn5)
        have HM := Lib.hid (fun (s : ByteArray) (hs : s.size ≤ 511) W' (hE : Ext w W') => rMember_calls t v s W' (hr.ext hE) (by omega) (all_ok t v s W' (hr.ext hE)))
        rw [h1] at HC
        have d3 : decide ((nn : Int) < 0) = false := decide_eq_false (by omega)
        have d4 : decide ((511 : Int) < (nn : Int)) = false := decide_eq_false (by omega)
        clear h1 h2 h3 hr
        by_cases hbig : 1000 < (allTo kk nn).length
        · have hE6 : wordsE (kk : Int) t (nn : Int) = 6 := HE.out.trans (if_pos hbig)
          rw [decide_eq_true hbig] at HMn
          have hL6 : wordsL (kk : Int) t (nn : Int) = [] := HL.out.trans (if_neg (by rw [hE6]; decide))
          rw [hE6, hL6]
          clear HE HL hE6 hL6 hbig HM
          go_enter Tryd.func18, Tryd.ntmps18
          go_wp2_with (first
            | ((go_at_call 20; (with_reducible refine (HC.out).mono ?_); rintro e w1 ⟨rfl, hx1⟩))
            | ((go_at_call 29; (with_reducible refine (HLt.out _).mono ?_); rintro e w' ⟨rfl, hw⟩; obtain rfl := hw.symm))
            | ((go_at_call 30; (with_reducible refine (HMn.out _).mono ?_); rintro e w' ⟨rfl, hw⟩; obtain rfl := hw.symm)))
          go_ret2
          exact ⟨_, rfl, Rd.nil _ _, hx1⟩
        · have hE0 : wordsE (kk : Int) t (nn : Int) = 0 := HE.out.trans (if_neg hbig)
          rw [decide_eq_false hbig] at HMn
          have hL0 : wordsL (kk : Int) t (nn : Int) = (allTo kk nn).filter (memR t) := HL.out.trans (if_pos hE0)
          rw [hE0, hL0]
          clear HE HL hE0 hL0
          go_enter Tryd.func18, Tryd.ntmps18
          go_wp2_with (first
            | ((go_at_call 20; (with_reducible refine (HC.out).mono ?_); rintro e w1 ⟨rfl, hx1⟩))
            | ((go_at_call 29; (with_reducible refine (HLt.out _).mono ?_); rintro e w' ⟨rfl, hw⟩; obtain rfl := hw.symm))
            | ((go_at_call 30; (with_reducible refine (HMn.out _).mono ?_); rintro e w' ⟨rfl, hw⟩; obtain rfl := hw.symm)))
          have h0 := own_str1 w1 ⟨#[]⟩
          have HMO := Lib.hid (fun i (h : i ≤ nn) => Nat.le_trans (allTo_mono kk h) (Nat.le_of_not_lt hbig))
          clear hbig
          go_loopw [9, 10, 11, 12, 13, 14, 15, 16] (fun v9 v10 v11 _ _ _ _ _ wr => ∃ i : Nat, v11 = .int .i64 i ∧ i ≤ nn + 1 ∧ Hid (Own Ty.str 9 w1.heap.size No wr ((fewTo kk i).filter (memR t)) v9) ∧ Hid (Own Ty.str 9 w1.heap.size No wr (lev kk i) v10) ∧ Hid (ApartV v9 v10) ∧ (lev kk i).length ≤ 8000 ∧ Ext w1 wr) (fun _ _ v11 _ _ _ _ _ _ => nn + 1 - (intOf v11).toNat)
          case atStart => exact ⟨0, rfl, by omega, Lib.hid (Own.nil _ _ _ _ _), Lib.hid h0, Lib.hid (ApartV.nil _).symm, by simp [lev], (Ext.refl _).alloc _⟩
          case round =>
            clear h0
            obtain ⟨i, rfl, hi, HO9, HO10, HA, hl8, he⟩ := hrel
            by_cases hlt : i ≤ nn
            · have hi1 : decide ((i : Int) ≤ (nn : Int)) = true := decide_eq_true (by omega)
              have hl1 : (lev kk i).length ≤ 1000 := by have := HMO.out i hlt; have := few_next kk i; omega
              have hf1 : (fewTo kk i).length ≤ 1000 := by have := HMO.out i hlt; have := few_next kk i; omega
              obtain ⟨A10, c10, rfl, hl10, hm10⟩ := HO10.out.shape
              unfold maxLen at hm10
              go_wp2_with fail
              go_loopw [9, 12, 13, 14, 15, 16] (fun v9 v12 v13 _ _ _ wq => ∃ j : Nat, v13 = .int .i64 j ∧ j ≤ (lev kk i).length ∧ Hid (Own Ty.str 9 w1.heap.size No wq ((fewTo kk i ++ (lev kk i).take j).filter (memR t)) v9) ∧ Hid (Own Ty.str 9 w1.heap.size No wq (part kk (lev kk i) j 0) v12) ∧ Hid (Own Ty.str 9 w1.heap.size No wq (lev kk i) (.slice A10 (lev kk i).length c10)) ∧ Hid (ApartV v9 (.slice A10 (lev kk i).length c10)) ∧ Hid (ApartV v9 v12) ∧ Hid (ApartV v12 (.slice A10 (lev kk i).length c10)) ∧ Ext w1 wq) (fun _ _ v13 _ _ _ _ => (lev kk i).length - (intOf v13).toNat)
              case atStart => exact ⟨0, rfl, by omega, Lib.hid (by rw [List.take_zero, List.append_nil]; exact HO9.out), Lib.hid (by rw [part_zero]; exact Own.nil _ _ _ _ _), HO10, HA, Lib.hid (ApartV.nil _), Lib.hid (ApartV.nil _).symm, he⟩
              case round =>
                clear HO9 HO10 HA he
                obtain ⟨j, rfl, hj, HO9, HO12, HO10, HA910, HA912, HA1210, he⟩ := hrel
                by_cases hlj : j < (lev kk i).length
                · have hlj1 : decide ((j : Int) < ((lev kk i).length : Int)) = true := decide_eq_true (by omega)
                  have hmemw := nthW_mem hlj
                  have hsz := lev_size kk i _ hmemw
                  obtain ⟨b2, off2, rfl, hb2, hcell⟩ := rd_str HO10.out.rd (nthW_get hlj)
                  have HMj := Lib.hid (HM.out (nthW (lev kk i) j) (by omega))
                  replace hsz := Lib.hid hsz
                  have HFn := filt_next (t := t) (pre := fewTo kk i) hlj
                  replace HFn := Lib.hid HFn
                  clear hmemw
                  cases hmm : memR t (nthW (lev kk i) j) with
                  | false =>
                    rw [hmm] at HMj HFn
                    replace HFn := HFn.out
                    rw [show (if false = true then [nthW (lev kk i) j] else []) = [] from rfl, List.append_nil] at HFn
                    generalize hFJ : (fewTo kk i ++ (lev kk i).take (j + 1)).filter (memR t) = FJ at *
                    replace hFJ := Lib.hid hFJ
                    replace HFn := Lib.hid HFn
                    go_wp2_with ((go_at_call 21; (with_reducible refine (HMj.out _ (hx1.trans he)).mono ?_); rintro e w2 ⟨rfl, h2⟩))
                    have G9 := Lib.hid (HO9.out.ext h2)
                    rw [← HFn.out] at G9
                    have G12 := Lib.hid (HO12.out.ext h2)
                    have G10 := Lib.hid (HO10.out.ext h2)
                    have A912 := HA912
                    have A1210 := HA1210
                    have E3 := he.trans h2
                    clear HO9 HO12 HO10 HMj h2 HA912 HA1210
                    go_loopw [12, 16] (fun v12 v16 wq => ∃ l : Nat, v16 = .int .i64 l ∧ l ≤ kk ∧ Hid (Own Ty.str 9 w1.heap.size No wq FJ _) ∧ Hid (Own Ty.str 9 w1.heap.size No wq (part kk (lev kk i) j l) v12) ∧ Hid (Own Ty.str 9 w1.heap.size No wq (lev kk i) (.slice (some ⟨b2, off2, none⟩) (lev kk i).length c10)) ∧ Hid (ApartV _ v12) ∧ Hid (ApartV v12 (.slice (some ⟨b2, off2, none⟩) (lev kk i).length c10)) ∧ Ext w1 wq) (fun _ v16 _ => kk - (intOf v16).toNat)
                    case atStart => exact ⟨0, rfl, by omega, G9, G12, G10, A912, A1210, E3⟩
                    case round =>
                      clear G9 G12 G10 A912 A1210 E3 hcell hb2
                      obtain ⟨l, rfl, hl, G9, G12, G10, A912, A1210, E3⟩ := hrel
                      by_cases hll : l < kk
                      · have hlld : decide ((l : Int) < (kk : Int)) = true := decide_eq_true (by omega)
                        obtain ⟨b3, off3, e3, hb3, hcell⟩ := rd_str G10.out.rd (nthW_get hlj)
                        cases e3
                        have q1 : (nthW (lev kk i) j).size + (chrB l).size ≤ 9223372036854775807 := by have h9 := hsz.out; rw [chr_size]; omega
                        have q2 : ¬ (9223372036854775807 < (nthW (lev kk i) j).size + (chrB l).size) := by omega
                        have q3 : ¬ (9223372036854775807 < ((nthW (lev kk i) j).size : Int) + ((chrB l).size : Int)) := by omega
                        have HPS := Lib.hid (part_step kk (lev kk i) j l)
                        have hr97 : (97 : Int) ≤ 97 + (l : Int) ∧ 97 + (l : Int) ≤ 104 := by omega
                        have hconv := conv_byte l (by omega) ((wr.alloc (.cells #[.int .u8 (97 + (l : Int))] 5)).drew) wr.heap.size 1 (by simp)
                        generalize hrr : (97 : Int) + (l : Int) = r at *
                        have hw97 : IntKind.u8.wrap r = r := by rw [IntKind.wrap_u8]; omega
                        have hw98 : IntKind.i64.wrap r = r := IntWalk.i64_in _ (by omega)
                        have hPL : Hid ((part kk (lev kk i) j l).length ≤ 8000) := Lib.hid (by have h8 := part_lt hlj hll; rw [flat_len] at h8; have h9 : (lev kk i).length * kk ≤ 1000 * 8 := Nat.mul_le_mul hl1 hk8; omega)
                        generalize chrB l = ch at *
                        generalize nthW (lev kk i) j = wd0 at *
                        go_wp2_with fail
                        go_region_law (first | ((with_reducible refine gate_st .append #[.tmp 72, .tmp 83] ?_); go_must (refine st_append (t := Ty.str) 9 w1.heap.size 16 elStr No _ (part kk (lev kk i) j l) rfl (G12.out.ext (by (repeat (first | assumption | exact Ext.refl _ | apply Ext.alloc | apply Ext.drew | apply Ext.drewN | refine Ext.trans ?_ (by assumption))))) (.slice (some ⟨wr.heap.size + 1, 0, none⟩) 1 1) [wd0 ++ ch] rfl Any (SlP.drew (str_one _ (wd0 ++ ch) _ (by simp))) (fun _ _ h => h) (by have h9 := hPL.out; simp only [List.length_singleton]; omega) (by decide) (by have h9 := E3.le; simp; omega) ?_); intro v9 w9 ho9 hg9 hat9))
                        all_goals
                          go_wp2_with fail
                          go_roundw
                          case rel => exact ⟨l + 1, by go_num, by omega, Lib.hid (Own.beside (G9.out.ext (by (repeat (first | assumption | exact Ext.refl _ | apply Ext.alloc | apply Ext.drew | apply Ext.drewN | refine Ext.trans ?_ (by assumption))))) hg9 A912.out), Lib.hid (by rw [HPS.out]; exact ho9), Lib.hid (Own.beside (G10.out.ext (by (repeat (first | assumption | exact Ext.refl _ | apply Ext.alloc | apply Ext.drew | apply Ext.drewN | refine Ext.trans ?_ (by assumption))))) hg9 A1210.out.symm), Lib.hid (ApartV.grow A912.out (G9.out.ext (by (repeat (first | assumption | exact Ext.refl _ | apply Ext.alloc | apply Ext.drew | apply Ext.drewN | refine Ext.trans ?_ (by assumption))))) hat9), Lib.hid (ApartV.grow A1210.out.symm (G10.out.ext (by (repeat (first | assumption | exact Ext.refl _ | apply Ext.alloc | apply Ext.drew | apply Ext.drewN | refine Ext.trans ?_ (by assumption))))) hat9).symm, Ext.grown (by (repeat (first | assumption | exact Ext.refl _ | apply Ext.alloc | apply Ext.drew | apply Ext.drewN | refine Ext.trans ?_ (by assumption)))) hg9 (fun k hk => G12.out.lo k hk)⟩
                          case measure => simp [intOf]; omega
                      · obtain rfl : l = kk := by omega
                        have HPN := Lib.hid (part_next (k := l) hlj)
                        go_wp2_with fail
                        go_roundw
                        case rel => exact ⟨j + 1, by go_num, by omega, Lib.hid (by rw [hFJ.out]; exact G9.out), Lib.hid (by rw [← HPN.out]; exact G12.out), G10, HA910, A912, A1210, E3⟩
                        case measure => simp [intOf]; omega
                  | true =>
                    rw [hmm] at HMj HFn
                    replace HFn := HFn.out
                    rw [show (if true = true then [nthW (lev kk i) j] else []) = [nthW (lev kk i) j] from rfl] at HFn
                    generalize hFJ : (fewTo kk i ++ (lev kk i).take (j + 1)).filter (memR t) = FJ at *
                    replace hFJ := Lib.hid hFJ
                    replace HFn := Lib.hid HFn
                    have HFl : Hid (((fewTo kk i ++ (lev kk i).take j).filter (memR t)).length ≤ 2000) := Lib.hid (by have h8 := List.length_filter_le (memR t) (fewTo kk i ++ (lev kk i).take j); rw [List.length_append, List.length_take] at h8; omega)
                    go_wp2_with (first
                      | ((go_at_call 21; (with_reducible refine (HMj.out _ (hx1.trans he)).mono ?_); rintro e w2 ⟨rfl, h2⟩); have hcell2 := (h2.cell _ _ hb2).trans hcell)
                      | ((with_reducible refine gate_bi .append #[.tmp 60, .tmp 65] ?_); refine wp_append (t := Ty.str) 9 w1.heap.size 16 elStr No _ ((fewTo kk i ++ (lev kk i).take j).filter (memR t)) rfl (HO9.out.ext (h2.alloc _)) (.slice (some ⟨w2.heap.size, 0, none⟩) 1 1) [nthW (lev kk i) j] rfl Any (str_one _ _ _ rfl) (fun _ _ h => h) (by have h9 := HFl.out; simp only [List.length_singleton]; omega) (by decide) (((he.trans h2).alloc _).le) ?_; intro v8 w3 ho8 hg8 hat8))
                    have e3 := h2.alloc (.cells #[.string (nthW (lev kk i) j)] 9)
                    have G9 := Lib.hid ho8
                    rw [← HFn.out] at G9
                    have G12 := Lib.hid (Own.beside (HO12.out.ext e3) hg8 HA912.out.symm)
                    have G10 := Lib.hid (Own.beside (HO10.out.ext e3) hg8 HA910.out.symm)
                    have A912 := Lib.hid (ApartV.grow HA912.out.symm (HO12.out.ext e3) hat8).symm
                    have A910 := Lib.hid (ApartV.grow HA910.out.symm (HO10.out.ext e3) hat8).symm
                    have A1210 := HA1210
                    have E3 := (he.trans e3).grown hg8 (fun k hk => HO9.out.lo k hk)
                    clear HO9 HO12 HO10 HMj h2 HA912 HA1210 HA910 ho8 hg8 hat8 e3 hcell2
                    go_loopw [12, 16] (fun v12 v16 wq => ∃ l : Nat, v16 = .int .i64 l ∧ l ≤ kk ∧ Hid (Own Ty.str 9 w1.heap.size No wq FJ _) ∧ Hid (Own Ty.str 9 w1.heap.size No wq (part kk (lev kk i) j l) v12) ∧ Hid (Own Ty.str 9 w1.heap.size No wq (lev kk i) (.slice (some ⟨b2, off2, none⟩) (lev kk i).length c10)) ∧ Hid (ApartV _ v12) ∧ Hid (ApartV v12 (.slice (some ⟨b2, off2, none⟩) (lev kk i).length c10)) ∧ Ext w1 wq) (fun _ v16 _ => kk - (intOf v16).toNat)
                    case atStart => exact ⟨0, rfl, by omega, G9, G12, G10, A912, A1210, E3⟩
                    case round =>
                      clear G9 G12 G10 A912 A1210 E3 hcell hb2
                      obtain ⟨l, rfl, hl, G9, G12, G10, A912, A1210, E3⟩ := hrel
                      by_cases hll : l < kk
                      · have hlld : decide ((l : Int) < (kk : Int)) = true := decide_eq_true (by omega)
                        obtain ⟨b3, off3, e3, hb3, hcell⟩ := rd_str G10.out.rd (nthW_get hlj)
                        cases e3
                        have q1 : (nthW (lev kk i) j).size + (chrB l).size ≤ 9223372036854775807 := by have h9 := hsz.out; rw [chr_size]; omega
                        have q2 : ¬ (9223372036854775807 < (nthW (lev kk i) j).size + (chrB l).size) := by omega
                        have q3 : ¬ (9223372036854775807 < ((nthW (lev kk i) j).size : Int) + ((chrB l).size : Int)) := by omega
                        have HPS := Lib.hid (part_step kk (lev kk i) j l)
                        have hr97 : (97 : Int) ≤ 97 + (l : Int) ∧ 97 + (l : Int) ≤ 104 := by omega
                        have hconv := conv_byte l (by omega) ((wr.alloc (.cells #[.int .u8 (97 + (l : Int))] 5)).drew) wr.heap.size 1 (by simp)
                        generalize hrr : (97 : Int) + (l : Int) = r at *
                        have hw97 : IntKind.u8.wrap r = r := by rw [IntKind.wrap_u8]; omega
                        have hw98 : IntKind.i64.wrap r = r := IntWalk.i64_in _ (by omega)
                        have hPL : Hid ((part kk (lev kk i) j l).length ≤ 8000) := Lib.hid (by have h8 := part_lt hlj hll; rw [flat_len] at h8; have h9 : (lev kk i).length * kk ≤ 1000 * 8 := Nat.mul_le_mul hl1 hk8; omega)
                        generalize chrB l = ch at *
                        generalize nthW (lev kk i) j = wd0 at *
                        go_wp2_with fail
                        go_region_law (first | ((with_reducible refine gate_st .append #[.tmp 72, .tmp 83] ?_); go_must (refine st_append (t := Ty.str) 9 w1.heap.size 16 elStr No _ (part kk (lev kk i) j l) rfl (G12.out.ext (by (repeat (first | assumption | exact Ext.refl _ | apply Ext.alloc | apply Ext.drew | apply Ext.drewN | refine Ext.trans ?_ (by assumption))))) (.slice (some ⟨wr.heap.size + 1, 0, none⟩) 1 1) [wd0 ++ ch] rfl Any (SlP.drew (str_one _ (wd0 ++ ch) _ (by simp))) (fun _ _ h => h) (by have h9 := hPL.out; simp only [List.length_singleton]; omega) (by decide) (by have h9 := E3.le; simp; omega) ?_); intro v9 w9 ho9 hg9 hat9))
                        all_goals
                          go_wp2_with fail
                          go_roundw
                          case rel => exact ⟨l + 1, by go_num, by omega, Lib.hid (Own.beside (G9.out.ext (by (repeat (first | assumption | exact Ext.refl _ | apply Ext.alloc | apply Ext.drew | apply Ext.drewN | refine Ext.trans ?_ (by assumption))))) hg9 A912.out), Lib.hid (by rw [HPS.out]; exact ho9), Lib.hid (Own.beside (G10.out.ext (by (repeat (first | assumption | exact Ext.refl _ | apply Ext.alloc | apply Ext.drew | apply Ext.drewN | refine Ext.trans ?_ (by assumption))))) hg9 A1210.out.symm), Lib.hid (ApartV.grow A912.out (G9.out.ext (by (repeat (first | assumption | exact Ext.refl _ | apply Ext.alloc | apply Ext.drew | apply Ext.drewN | refine Ext.trans ?_ (by assumption))))) hat9), Lib.hid (ApartV.grow A1210.out.symm (G10.out.ext (by (repeat (first | assumption | exact Ext.refl _ | apply Ext.alloc | apply Ext.drew | apply Ext.drewN | refine Ext.trans ?_ (by assumption))))) hat9).symm, Ext.grown (by (repeat (first | assumption | exact Ext.refl _ | apply Ext.alloc | apply Ext.drew | apply Ext.drewN | refine Ext.trans ?_ (by assumption)))) hg9 (fun k hk => G12.out.lo k hk)⟩
                          case measure => simp [intOf]; omega
                      · obtain rfl : l = kk := by omega
                        have HPN := Lib.hid (part_next (k := l) hlj)
                        go_wp2_with fail
                        go_roundw
                        case rel => exact ⟨j + 1, by go_num, by omega, Lib.hid (by rw [hFJ.out]; exact G9.out), Lib.hid (by rw [← HPN.out]; exact G12.out), G10, A910, A912, A1210, E3⟩
                        case measure => simp [intOf]; omega
                · obtain rfl : j = (lev kk i).length := by omega
                  have HPA := Lib.hid (part_all kk (lev kk i))
                  have HF9 : Hid ((fewTo kk i ++ (lev kk i).take (lev kk i).length).filter (memR t) = (fewTo kk (i + 1)).filter (memR t)) := Lib.hid (by rw [List.take_length, fewTo])
                  go_wp2_with fail
                  go_roundw
                  case rel => exact ⟨i + 1, by go_num, by omega, Lib.hid (by rw [← HF9.out]; exact HO9.out), Lib.hid (by have h9 := HO12.out; rw [HPA.out] at h9; exact h9), HA912, by rw [lev, flat_len]; exact Nat.le_trans (Nat.mul_le_mul hl1 hk8) (by decide), he⟩
                  case measure => simp [intOf]; omega
            · obtain rfl : i = nn + 1 := by omega
              have hi1 : decide (((nn + 1 : Nat) : Int) ≤ (nn : Int)) = false := decide_eq_false (by omega)
              have HFA := Lib.hid (fewTo_all kk nn)
              go_wp2_with fail
              go_ret2
              exact ⟨_, rfl, by have h9 := HO9.out.rd; rw [HFA.out] at h9; exact h9, hx1.trans he⟩
      · have hE : wordsE k t n = 11 := by unfold wordsE; rw [if_neg (by omega), if_neg (by omega), if_pos h3]
        have hL : wordsL k t n = [] := if_neg (by rw [hE]; decide)
        have HLt := Lib.hid (rLetters_calls k)
        rw [show lettersE k = 0 from if_pos h2] at HLt
        rw [hE, hL]
        rw [h1] at HC
        by_cases h4 : n < 0
        · have d3 : decide (n < 0) = true := decide_eq_true h4
          clear hE hL h1 h2 h3 h4 hr
          go_enter Tryd.func18, Tryd.ntmps18
          go_wp2_with (first
            | ((go_at_call 20; (with_reducible refine (HC.out).mono ?_); rintro e w1 ⟨rfl, hx1⟩))
            | ((go_at_call 29; (with_reducible refine (HLt.out _).mono ?_); rintro e w' ⟨rfl, hw⟩; obtain rfl := hw.symm)))
          go_ret2
          exact ⟨_, rfl, Rd.nil _ _, hx1⟩
        · have d3 : decide (n < 0) = false := decide_eq_false h4
          have d4 : decide (511 < n) = true := decide_eq_true (by omega)
          clear hE hL h1 h2 h3 h4 hr
          go_enter Tryd.func18, Tryd.ntmps18
          go_wp2_with (first
            | ((go_at_call 20; (with_reducible refine (HC.out).mono ?_); rintro e w1 ⟨rfl, hx1⟩))
            | ((go_at_call 29; (with_reducible refine (HLt.out _).mono ?_); rintro e w' ⟨rfl, hw⟩; obtain rfl := hw.symm)))
          go_ret2
          exact ⟨_, rfl, Rd.nil _ _, hx1⟩
    · have hE : wordsE k t n = 20 := by unfold wordsE; rw [if_neg (by omega), if_pos h2]
      have hL : wordsL k t n = [] := if_neg (by rw [hE]; decide)
      have HLt := Lib.hid (rLetters_calls k)
      rw [show lettersE k = 20 from if_neg h2] at HLt
      rw [hE, hL]
      rw [h1] at HC
      clear hE hL h1 h2 hr
      go_enter Tryd.func18, Tryd.ntmps18
      go_wp2_with (first
        | ((go_at_call 20; (with_reducible refine (HC.out).mono ?_); rintro e w1 ⟨rfl, hx1⟩))
        | ((go_at_call 29; (with_reducible refine (HLt.out _).mono ?_); rintro e w' ⟨rfl, hw⟩; obtain rfl := hw.symm)))
      go_ret2
      exact ⟨_, rfl, Rd.nil _ _, hx1⟩
  · have hE : wordsE k t n = errW t := if_pos h1
    have hne : (errW t != 0) = true := bne_iff_ne.2 h1
    have hne2 : (errW t == 0) = false := beq_eq_false_iff_ne.2 h1
    have hL : wordsL k t n = [] := if_neg (by rw [hE]; exact h1)
    rw [hE, hL]
    generalize errW t = ew at *
    clear hE hL h1 hr
    go_enter Tryd.func18, Tryd.ntmps18
    go_wp2_with ((go_at_call 20; (with_reducible refine (HC.out).mono ?_); rintro e w1 ⟨rfl, hx1⟩))
    go_ret2
    exact ⟨_, rfl, Rd.nil _ _, hx1⟩
end Go.Proofs.YtdeppnamhdbbhaaDoor
namespace Go.Proofs.YtdeppnamhdbbhaaDoor
open Go.RowKit Go.Eg

theorem nth_ext {xs ys : List Nd} (hl : xs.length = ys.length) (h : ∀ j, j < xs.length → nth xs j = nth ys j) : xs = ys := by
  apply List.ext_getElem? 
  intro i
  by_cases hi : i < xs.length
  · rw [nth_get hi, nth_get (by omega), h i hi]
  · rw [List.getElem?_eq_none (by omega), List.getElem?_eq_none (by omega)]

end Go.Proofs.YtdeppnamhdbbhaaDoor
namespace Go.Eg
open Go.RowKit
/-- An empty literal. -/
theorem Own.empty {α : Type} (t : Ty α) {w : World} {e base : Nat} {B : Nat → Prop} (z : Array Value) (z0 : α) (hz : z.size = t.sz) (hrel : ∀ B w, t.rel B w z0 z.toList) (hb : base ≤ w.heap.size) :
    Own t e base B (w.alloc (.cells #[] e)) [] (.slice (some ⟨w.heap.size, 0, none⟩) 0 0) := by
  have h := Own.made (t := t) (e := e) (B := B) (m := 0) z z0 hz hrel hb (by decide)
  rw [Nat.zero_mul, show madeCells z 0 = #[] by simp [madeCells]] at h
  exact h
end Go.Eg
namespace Go.Proofs.YtdeppnamhdbbhaaDoor
open Go.RowKit Go.Eg

def marks : List Nd := [⟨-7, 0⟩, ⟨-8, 0⟩]
theorem lit_marks (w : World) (e : TypeId) : SlP tyNd Any (w.alloc (.cells #[.int .i64 (-7), .int .u8 0, .int .i64 (-8), .int .u8 0] e)) marks (.slice (some ⟨w.heap.size, 0, none⟩) 2 2) :=
  SlP.lit (t := tyNd) marks _ (n := 2) rfl (by decide) trivial (fun i x hx => by
    match i, hx with
    | 0, hx => cases hx; exact ⟨_, ⟨rfl, by decide⟩, fun j u hu => by match j, hu with | 0, hu => exact hu | 1, hu => exact hu | j + 2, hu => simp at hu⟩
    | 1, hx => cases hx; exact ⟨_, ⟨rfl, by decide⟩, fun j u hu => by match j, hu with | 0, hu => exact hu | 1, hu => exact hu | j + 2, hu => simp at hu⟩
    | i + 2, hx => simp [marks] at hx)
/-- A lent list: a row of one's own with marked room behind it. -/
def Lent (base : Nat) (w : World) (t : List Nd) (g c : Nat) : Prop :=
  Own tyNd 27 base No w (t ++ marks) (.slice (some ⟨g, 0, none⟩) (t.length + 2) c) ∧ t.length + 2 ≤ c
theorem Lent.rd {base : Nat} {w : World} {t : List Nd} {g c : Nat} (h : Lent base w t g c) : Rd tyNd w t (.slice (some ⟨g, 0, none⟩) t.length c) := by
  have := (h.1.take (n := t.length + 2) rfl t.length (by simp)).rd
  rwa [List.take_left] at this
theorem Lent.ext {base : Nat} {w w' : World} {t : List Nd} {g c : Nat} (h : Lent base w t g c) (he : Ext w w') : Lent base w' t g c := ⟨h.1.ext he, h.2⟩
theorem Lent.lo {base : Nat} {w : World} {t : List Nd} {g c : Nat} (h : Lent base w t g c) : base ≤ g := h.1.lo g rfl

theorem lent_shape {e base : Nat} {w : World} {t : List Nd} {v : Value} (h : Own tyNd e base No w (t ++ marks) v) : ∃ g c, v = .slice (some ⟨g, 0, none⟩) (t.length + 2) c ∧ t.length + 2 ≤ c := by
  obtain ⟨A, c, rfl, hl, -⟩ := h.shape
  have hm : (t ++ marks).length = t.length + 2 := by simp [marks]
  rcases h.zero with ⟨-, h0, -, -⟩ | ⟨g, rfl, -, -, -⟩
  · omega
  · rw [hm] at hl ⊢
    exact ⟨g, c, rfl, hl⟩

set_option maxHeartbeats 1000000 in
set_option maxRecDepth 100000 in
theorem lentNodes_calls (t : List Nd) (v : Value) (w : World) (hr : Rd tyNd w t v) (hl : t.length * 16 ≤ 140737488351232) :
    Calls Tryd.prog 17 #[v] w fun e w' => ∃ g c, e = .returned (.slice (some ⟨g, 0, none⟩) t.length c) ∧ Lent w.heap.size w' t g c ∧ Ext w w' := by
  obtain ⟨A, c, rfl, hlc, hcm⟩ := hr.shape
  unfold maxLen at hcm
  have hE : Ext w (w.alloc (.cells #[] 27)) := (Ext.refl w).alloc _
  go_enter Tryd.func17, Tryd.ntmps17
  go_wp2_with (first | ((with_reducible refine gate_bi .append #[.tmp 4, .tmp 5] ?_); refine wp_append (t := tyNd) 27 w.heap.size 16 elNd No (.slice (some ⟨w.heap.size, 0, none⟩) 0 0) [] rfl (Own.empty tyNd #[.int .i64 0, .int .u8 0] ⟨0, 0⟩ rfl (fun _ _ => ⟨rfl, by decide⟩) (Nat.le_refl _)) _ t rfl Any (hr.ext hE) (fun _ _ h => h) (by simp; omega) (by decide) (by simp) ?_; intro v1 w1 ho1 hg1 _; have h1 := Ext.grown hE hg1 (by simp [Value.ownBlock]); rw [List.nil_append] at ho1; obtain ⟨A1, c1, rfl, hl1, hm1⟩ := ho1.shape) | ((with_reducible refine gate_bi .append #[.tmp 7, .tmp 10] ?_); refine wp_append (t := tyNd) 27 w.heap.size 16 elNd No (.slice A1 t.length c1) t rfl (ho1.ext ((Ext.refl _).alloc _)) _ marks rfl Any (lit_marks _ _) (fun _ _ h => h) (by show (t.length + 2) * 16 ≤ _; omega) (by decide) (by have := h1.le; simp; omega) ?_; intro v2 w2 ho2 hg2 _; have h2 := Ext.grown (h1.alloc _) hg2 (fun k hk => ho1.lo k hk); obtain ⟨g2, c2, rfl, hl2⟩ := lent_shape ho2; have hl2' : (t.length : Int) ≤ c2 := (by omega)))
  go_ret
  exact ⟨g2, c2, rfl, ⟨ho2, hl2⟩, h2⟩

end Go.Proofs.YtdeppnamhdbbhaaDoor
namespace Go.Proofs.YtdeppnamhdbbhaaDoor
open Go.RowKit Go.Eg

set_option maxHeartbeats 4000000 in
set_option maxRecDepth 100000 in
theorem lawWords_calls (k : Int) (t : List Nd) (n : Int) (w : World) (hT : Tab w) (_ : IntIn .i64 k) (va : Value) (hra : Rd tyNd w t va) (hla : t.length * 16 ≤ 140737488351232) (_ : IntIn .i64 n) :
    Calls Tryd.prog 6 #[.int .i64 k, va, .int .i64 n] w fun e w' => e = .returned (.bool true) ∧ Ext w w' := by
  have HL := Lib.hid (lentNodes_calls t va w hra hla)
  have HW := Lib.hid (fun v w' (hE : Ext w w') (h : Rd tyNd w' t v) => Words_calls k t v n w' h (hT.ext hE))
  have HR := Lib.hid (fun w' (hE : Ext w w') => rWords_calls k t va n w' (hra.ext hE))
  have HLv := Lib.hid (fun w' (hE : Ext w w') => live6_calls w' (hT.ext hE))
  obtain ⟨A1, c1, rfl, hl1, hm1⟩ := hra.shape
  clear hT hra hla
  generalize wordsL k t n = L at *
  generalize wordsE k t n = E at *
  go_enter Tryd.func6, Tryd.ntmps6
  go_wp2_with (first
    | ((go_at_call 17; (with_reducible refine (HL.out).mono ?_); rintro e w1 ⟨g1, d1, rfl, hs1, h1⟩))
    | ((go_at_call 16; (with_reducible refine (HW.out _ _ h1 hs1.rd).mono ?_); rintro e w2 ⟨v2, rfl, hr2, h2⟩); have E2 := h1.trans h2)
    | ((go_at_call 18; (with_reducible refine (HR.out _ E2).mono ?_); rintro e w3 ⟨v3, rfl, hr3, h3⟩); have E3 := E2.trans h3)
    | ((go_at_call 19; (with_reducible refine (sameWords_calls L _ _ _ (hr2.ext h3) hr3).mono ?_); rintro e w4 ⟨rfl, h4⟩); have E4 := E3.trans h4)
    | ((go_at_call 13; (with_reducible refine (num6_calls _ _).mono ?_); rintro e w' ⟨rfl, hw⟩; obtain rfl := hw.symm))
    | ((go_at_call 8; (with_reducible refine (HLv.out _ E4).mono ?_); rintro e w5 ⟨rfl, h5⟩)))
  go_ret
  exact ⟨rfl, E4.trans h5⟩
end Go.Proofs.YtdeppnamhdbbhaaDoor
namespace Go.Proofs.YtdeppnamhdbbhaaDoor.matchWords
open Go.ChangeShapes Go.WideShapes Go.ChangeAt Go.RowKit Go.Eg
theorem own : ownKnob Tryd.prog.godebug = none := by kernel_rfl
theorem laidOut : laidOutB Tryd.prog = true := by kernel_rfl
set_option maxRecDepth 100000 in
theorem lifted (os : Os) (started : os.Started) (H : Type) (enc : TypeId × Value → H) :
    ReturnsInHanded {} Tryd.checked os 6 .any (fun w args => (Rows.matchWordsSpec.pre enc Tryd.prog Tryd.f6 [] false w args ∧ laidMetH Tryd.prog tabLaid w) ∧ sizedMet enc Tryd.prog Tryd.f6 (OpenSpec.ofChange Rows.matchWordsSpec) false w args) (Rows.matchWordsSpec.post enc Tryd.prog Tryd.f6 false true false false) := by
  refine returnsInHanded_of_change_and (C := Tryd.checked) (X := fun w _ => laidMetH Tryd.prog tabLaid w) (fun _ _ _ hh h => h.of_heap hh) own started (by kernel_rfl) Tryd.func6
    (ChangeSpec.witness_shaped (enc := enc) (C := Tryd.checked) (os := os) (X := fun w _ => laidMetH Tryd.prog tabLaid w) false (World.doorLaid Tryd.prog 400 os) #[.int .i64 0, .slice none 0 0, .int .i64 0] 8 rfl (World.shaped_of_RefB (by kernel_rfl) (by kernel_rfl)) (by kernel_rfl) (by kernel_rfl) (by kernel_rfl) (door_met os _)) ?_
  intro W base args ds gs before hval0 hW hcnd hsz0 hL _
  have hT := tab_of_laid hL
  have hsz : (DataW.weightsEach Tryd.prog (Tryd.f6.params.toList ++ Rows.matchWordsSpec.plain.varTypes Tryd.prog) (ds ++ gs)).all (· ≤ reachBytes) = true := hsz0
  have hval : ∀ (j : Nat) t v, Tryd.f6.params[j]? = some t → args[j]? = some v → Value.okWide Tryd.prog W .any base t v := hval0
  have hW' := hW
  obtain ⟨p, q, hA0, hV, rfl, hfz, hnd⟩ := hW
  have hA : DataW.TrodAll enc Tryd.prog W 0 (fun _ => true) true Tryd.f6.params.toList args.toList ds p := hA0
  rw [Tryd.params6] at hA hval hsz
  obtain ⟨v0, vs0, d0, ds0, p0, q0, hargs, rfl, rfl, h0, r0⟩ := trodAll_cons hA
  obtain ⟨v1, vs1, d1, ds1, p1, q1, rfl, rfl, rfl, h1, r1⟩ := trodAll_cons r0
  obtain ⟨v2, vs2, d2, ds2, p2, q2, rfl, rfl, rfl, h2, r2⟩ := trodAll_cons r1
  obtain ⟨rfl, rfl, rfl⟩ := trodAll_nil r2
  obtain rfl : args = #[v0, v1, v2] := by cases args; simp_all
  obtain ⟨rfl, rfl⟩ := trodVars_none hV
  obtain ⟨x0, rfl, b0⟩ := arg_int (hval 0 _ v0 rfl rfl) h0 (fits_each hsz (j := 0) rfl rfl)
  obtain ⟨x1, e1, b1⟩ := arg_nodes (hval 1 _ v1 rfl rfl) h1 (fits_each hsz (j := 1) rfl rfl)
  obtain ⟨x2, rfl, b2⟩ := arg_int (hval 2 _ v2 rfl rfl) h2 (fits_each hsz (j := 2) rfl rfl)
  have l0 := trod_low h0
  have l1 := trod_low h1
  have l2 := trod_low h2
  clear hA0 hval0 hsz0 hsz
  refine (lawWords_calls x0 x1 x2 W hT b0 _ e1 b1 b2).mono fun e W' ⟨he, bel⟩ => ?_
  subst he
  replace bel : Below W.heap.size W W' := bel
  exact ⟨_, rfl, _, _, _, [], _, [], hW', trodAll_mk1 (shut_bool Tryd.underlying4 _), (trodAll_cons_mk (Below.trod laidOut (by kernel_rfl) (of_decide_eq_true (by kernel_rfl)) h0 bel l0) (trodAll_cons_mk (Below.trod laidOut (by kernel_rfl) (of_decide_eq_true (by kernel_rfl)) h1 bel l1) (trodAll_cons_mk (Below.trod laidOut (by kernel_rfl) (of_decide_eq_true (by kernel_rfl)) h2 bel l2) trodAll_mk0))), rfl, bel.frame _, fun h => by cases h⟩
theorem over : Rows.matchWordsRow.holds Tryd.pinned (OpenSpec.ofChange Rows.matchWordsSpec) :=
  OpenClaim.holds_of_wide 6 Tryd.f6 rfl rfl rfl rfl rfl rfl rfl ⟨rfl, rfl, rfl, rfl, rfl⟩ rfl rfl rfl rfl rfl (by kernel_rfl) Tryd.func6 (by kernel_rfl)
    (of_decide_eq_true (by kernel_rfl)) (by unfold Func.isWrapper; first | (rw [if_pos (by decide +kernel)]; kernel_rfl) | (rw [if_neg (by decide +kernel)]; exact ⟨rfl, rfl⟩))
    (fun os started H enc _ => lifted os started H enc)
theorem proved : Rows.MatchWordsSaid := over
theorem carded : Rows.MatchWordsCardSaid :=
  Claim7.holds_tied_plain_at .later [] [.data] true Rows.matchWordsCard.stood.harness false
    proved (fun _ h => by cases h) (by kernel_rfl) (fun _ h => by cases h) matchWords_row_tie rfl ⟨rfl, rfl⟩ (by kernel_rfl) rfl
    (fun f fn hf hfn => by
      obtain rfl : f = 6 := Option.some.inj ((show Tryd.prog.funcNamed "eggbox/eggboxlaw06.MatchWords" = some 6 by kernel_rfl).symm.trans hf) |>.symm
      obtain rfl : fn = Tryd.f6 := (Option.some.inj (Tryd.func6.symm.trans hfn)).symm
      exact ⟨by kernel_rfl, fun j t ht => by
        rw [Tryd.params6] at ht
        have hm : t ∈ [3, 22, 3] := by simpa using Array.mem_of_getElem? ht
        have hall : ([3, 22, 3].all fun u => !Tryd.prog.wantsStandIn u) = true := by kernel_rfl
        exact (show Tryd.prog.wantsStandIn t = false by simpa using List.all_eq_true.1 hall t hm)⟩)
    (by kernel_rfl)
end Go.Proofs.YtdeppnamhdbbhaaDoor.matchWords
namespace Go.Proofs.YtdeppnamhdbbhaaDoor
/-- The card, for the claim. -/
theorem matchWords_holds : Rows.MatchWordsCardSaid := matchWords.carded
end Go.Proofs.YtdeppnamhdbbhaaDoor
