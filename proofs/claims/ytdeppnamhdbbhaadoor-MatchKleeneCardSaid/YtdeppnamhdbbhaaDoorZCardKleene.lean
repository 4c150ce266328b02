/- The card of the law MatchKleene, out of its walk. Conditions: none. -/
import Derived.WalkKit
import Derived.ProofKit
import Derived.OpenShut
import Derived.ShutString
import Derived.ChangeOld
import Derived.Below
import Derived.SizedLaws
import Derived.Carry
import Derived.LaidMore
import Derived.Stop.Joined
import Derived.SevenTiedAt
import Derived.Test.YtdeppnamhdbbhaaDoorCards
import Derived.Test.YtdeppnamhdbbhaaDoorTie
import Derived.Test.YtdeppnamhdbbhaaDoorZ3
namespace Go.Proofs.YtdeppnamhdbbhaaDoor
open Go.RowKit Go.Eg

theorem bt_ext (s : ByteArray) (i j m : Nat) (h : i + m < j) : bt (s.extract i j) m = bt s (i + m) := by
  have hd : (s.extract i j).data.toList = (s.data.toList.drop i).take (j - i) := by
    simp only [ByteArray.data_extract, Array.toList_extract, List.extract]
  unfold bt
  rw [hd, List.getD_eq_getElem?_getD, List.getD_eq_getElem?_getD, List.getElem?_take, if_pos (by omega), List.getElem?_drop]
theorem word_all {s : ByteArray} (h : wordE s = 0) : ∀ m, m < s.size → 97 ≤ bt s m ∧ bt s m ≤ 104 := by
  intro m hm
  rcases Classical.em (97 ≤ bt s m ∧ bt s m ≤ 104) with h1 | h1
  · exact h1
  · rw [word_bad hm h1] at h; cases h
theorem ext_size (s : ByteArray) (i j : Nat) (hij : i ≤ j) (hj : j ≤ s.size) : (s.extract i j).size = j - i := by rw [ByteArray.size_extract]; omega
theorem word_ext0 {s : ByteArray} (h : wordE s = 0) (i j : Nat) (hij : i ≤ j) (hj : j ≤ s.size) : wordE (s.extract i j) = 0 := by
  have hs := word_size h
  have hz := ext_size s i j hij hj
  rw [word_good (fun m hm => by rw [hz] at hm; rw [bt_ext s i j m (by omega)]; exact word_all h _ (by omega)), if_neg (by omega)]
section
variable {x : T} {s : ByteArray} (hw : x.wf) (hl : x.flat.length ≤ 4000) (hs : wordE s = 0)
include hw hl hs
theorem head_mem (i : Nat) (hi : i ≤ s.size) : memR x.flat (s.extract 0 i) = x.says (bt s) 0 i := by
  rw [memR_flat hw hl (word_ext0 hs 0 i (by omega) hi), ext_size s 0 i (by omega) hi, Nat.sub_zero]
  exact mem_head _ _ x i (fun m hm => by rw [bt_ext s 0 i m (by omega), Nat.zero_add])
theorem tail_mem (i : Nat) (hi : i ≤ s.size) : memR x.flat (s.extract i s.size) = x.says (bt s) i s.size := by
  rw [memR_flat hw hl (word_ext0 hs i s.size hi (Nat.le_refl _)), ext_size s i s.size hi (Nat.le_refl _), ← mem_piece (bt s) x i s.size hi]
  exact mem_head (fun m => bt s (m + i)) _ x (s.size - i) (fun m hm => by rw [bt_ext s i s.size m (by omega), Nat.add_comm])
end
/-- By the first k cuts. -/
def cutTo (x y : T) (c : Nat → Int) (n k : Nat) : Bool := (List.range k).any fun i => x.says c 0 i && y.says c i n
theorem cutTo_succ (x y : T) (c : Nat → Int) (n k : Nat) : cutTo x y c n (k + 1) = (cutTo x y c n k || (x.says c 0 k && y.says c k n)) := by simp [cutTo, List.range_succ]
theorem cut_all (x y : T) (c : Nat → Int) (n : Nat) : memB c n (.bin ⟨7, 0⟩ x y) = cutTo x y c n (n + 1) := by
  rw [Bool.eq_iff_iff, mem_concat]
  simp only [cutTo, List.any_eq_true, List.mem_range, Bool.and_eq_true]
  constructor
  · rintro ⟨i, h1, h2, h3⟩; exact ⟨i, by omega, h2, h3⟩
  · rintro ⟨i, h1, h2, h3⟩; exact ⟨i, by omega, h2, h3⟩
/-- The empty word, or by the first k cuts behind a letter. -/
def starTo (x : T) (c : Nat → Int) (n k : Nat) : Bool := decide (n = 0) || (List.range k).any fun i => decide (1 ≤ i) && (x.says c 0 i && (T.un ⟨8, 0⟩ x).says c i n)
theorem starTo_one (x : T) (c : Nat → Int) (n : Nat) : starTo x c n 1 = decide (n = 0) := by simp [starTo, List.range_succ]
theorem starTo_succ (x : T) (c : Nat → Int) (n k : Nat) (hk : 1 ≤ k) : starTo x c n (k + 1) = (starTo x c n k || (x.says c 0 k && (T.un ⟨8, 0⟩ x).says c k n)) := by
  simp [starTo, List.range_succ, hk, Bool.or_assoc]
theorem star_all (x : T) (c : Nat → Int) (n : Nat) : memB c n (.un ⟨8, 0⟩ x) = starTo x c n (n + 1) := by
  rw [Bool.eq_iff_iff, mem_star]
  simp only [starTo, Bool.or_eq_true, decide_eq_true_eq, List.any_eq_true, List.mem_range, Bool.and_eq_true]
  constructor
  · rintro (h | ⟨i, h0, h1, h2, h3⟩)
    · exact .inl h
    · exact .inr ⟨i, by omega, h0, h2, h3⟩
  · rintro (h | ⟨i, h1, h0, h2, h3⟩)
    · exact .inl h
    · exact .inr ⟨i, h0, by omega, h2, h3⟩
theorem one_mem (x : T) (c : Nat → Int) (n : Nat) : memB c n (.bin ⟨7, 0⟩ x (.leaf ⟨2, 0⟩)) = memB c n x := by
  rw [Bool.eq_iff_iff, mem_concat]
  have e : ∀ i j, (T.leaf ⟨2, 0⟩).says c i j = (i == j) := fun i j => rfl
  constructor
  · rintro ⟨i, h1, h2, h3⟩
    rw [e, beq_iff_eq] at h3
    subst h3; exact h2
  · intro h; exact ⟨n, Nat.le_refl _, h, by rw [e]; simp⟩
theorem nought_mem (x : T) (c : Nat → Int) (n : Nat) : memB c n (.bin ⟨7, 0⟩ (.leaf ⟨1, 0⟩) x) = false := by
  cases h : memB c n (.bin ⟨7, 0⟩ (.leaf ⟨1, 0⟩) x)
  · rfl
  · obtain ⟨i, _, h2, _⟩ := (mem_concat c n _ _).1 h
    have e : (T.leaf ⟨1, 0⟩).says c 0 i = false := rfl
    rw [e] at h2; cases h2

theorem lit_leaf (W : World) (e : TypeId) (k : Int) : Rd tyNd (W.alloc (.cells #[.int .i64 k, .int .u8 0] e)) [⟨k, 0⟩] (.slice (some ⟨W.heap.size, 0, none⟩) 1 1) :=
  SlP.one (t := tyNd) ⟨k, 0⟩ _ (fun _ _ => ⟨rfl, by simp⟩)
theorem rd_lit2at {w : World} {e : TypeId} {x y : List Nd} {u u' : Value} {b : Nat} (hb : b = w.heap.size) (h : Rd tyNd w x u) (h' : Rd tyNd w y u') : Rd (Ty.slice tyNd) (w.alloc (.cells #[u, u'] e)) [x, y] (.slice (some ⟨b, 0, none⟩) 2 2) := by
  subst hb; exact rd_lit2 h h'
set_option maxHeartbeats 16000000 in
set_option maxRecDepth 100000 in
theorem lawKleene_calls (t u : List Nd) (s : ByteArray) (w : World) (hT : Tab w) (va : Value) (hra : Rd tyNd w t va) (hla : t.length * 16 ≤ 140737488351232) (vb : Value) (hrb : Rd tyNd w u vb) (hlb : u.length * 16 ≤ 140737488351232) (hs : s.size ≤ 140737488351232) :
    Calls Tryd.prog 4 #[va, vb, .string s] w fun e w' => e = .returned (.bool true) ∧ Ext w w' := by
  obtain ⟨A1, c1, rfl, hl1, hm1⟩ := hra.shape
  obtain ⟨A2, c2, rfl, hl2, hm2⟩ := hrb.shape
  have HGa := Lib.hid (good6_calls t _ s w hra (by omega))
  have HGb := Lib.hid (fun w' (hE : Ext w w') => good6_calls u _ s w' (hrb.ext hE) (by omega))
  have HLv := Lib.hid (fun w' (hE : Ext w w') => live6_calls w' (hT.ext hE))
  cases hga : goodR t s with
  | false =>
    rw [hga] at HGa
    clear hga hT hra hrb
    go_enter Tryd.func4, Tryd.ntmps4
    go_wp2_with (first
      | ((go_at_call 7; (with_reducible refine (HGa.out).mono ?_); rintro e w1 ⟨rfl, h1⟩))
      | ((go_at_call 8; (with_reducible refine (HLv.out _ h1).mono ?_); rintro e w2 ⟨rfl, h2⟩)))
    go_ret
    exact ⟨rfl, h1.trans h2⟩
  | true =>
    cases hgb : goodR u s with
    | false =>
      rw [hga] at HGa
      rw [hgb] at HGb
      clear hga hgb hT hra hrb
      go_enter Tryd.func4, Tryd.ntmps4
      go_wp2_with (first
        | ((go_at_call 7; (with_reducible refine (HGa.out).mono ?_); rintro e w1 ⟨rfl, h1⟩))
        | ((go_at_call 7; (with_reducible refine (HGb.out _ h1).mono ?_); rintro e w2 ⟨rfl, h2⟩))
        | ((go_at_call 8; (with_reducible refine (HLv.out _ (h1.trans h2)).mono ?_); rintro e w3 ⟨rfl, h3⟩)))
      go_ret
      exact ⟨rfl, (h1.trans h2).trans h3⟩
    | true =>
      obtain ⟨x, hxw, rfl, hxl, hse, hs5⟩ := good_of hga
      obtain ⟨y, hyw, rfl, hyl, _, _⟩ := good_of hgb
      rw [hga] at HGa
      rw [hgb] at HGb
      have ht1 : (x.flat).length ≤ 4000 := by omega
      have ht2 : (y.flat).length ≤ 4000 := by omega
      have HIn := Lib.hid (fun (L : List Nd) v w' (hE : Ext w w') (hr : Rd tyNd w' L v) => in6_calls L v s w' hr hs (hT.ext hE))
      have HIa := Lib.hid (fun w' (hE : Ext w w') => in6_calls x.flat _ s w' (hra.ext hE) hs (hT.ext hE))
      rw [memR_flat hxw ht1 hse] at HIa
      have HIt : Hid (∀ i, i ≤ s.size → ∀ w', Ext w w' → Calls Tryd.prog 9 #[.slice A1 x.flat.length c1, .string (s.extract 0 i)] w' fun e w'' => e = .returned (.bool (x.says (bt s) 0 i)) ∧ Ext w' w'') := Lib.hid (fun i hi w' hE => by
        have := in6_calls x.flat _ (s.extract 0 i) w' (hra.ext hE) (by rw [ext_size s 0 i (by omega) hi]; omega) (hT.ext hE)
        rw [head_mem hxw ht1 hse i hi] at this
        exact this)
      have HIu : Hid (∀ i, i ≤ s.size → ∀ w', Ext w w' → Calls Tryd.prog 9 #[.slice A2 y.flat.length c2, .string (s.extract i s.size)] w' fun e w'' => e = .returned (.bool (y.says (bt s) i s.size)) ∧ Ext w' w'') := Lib.hid (fun i hi w' hE => by
        have := in6_calls y.flat _ (s.extract i s.size) w' (hrb.ext hE) (by rw [ext_size s i s.size hi (Nat.le_refl _)]; omega) (hT.ext hE)
        rw [tail_mem hyw ht2 hse i hi] at this
        exact this)
      have hswf : (T.un ⟨8, 0⟩ x).wf := ⟨by decide, by decide, hxw⟩
      have hsl : (T.un ⟨8, 0⟩ x).flat.length ≤ 4000 := by simp [T.flat]; omega
      have HIs : Hid (∀ i, i ≤ s.size → ∀ v w', Ext w w' → Rd tyNd w' ([x.flat].flatten ++ [⟨8, 0⟩]) v → Calls Tryd.prog 9 #[v, .string (s.extract i s.size)] w' fun e w'' => e = .returned (.bool ((T.un ⟨8, 0⟩ x).says (bt s) i s.size)) ∧ Ext w' w'') := Lib.hid (fun i hi v w' hE hr => by
        rw [un_flat] at hr
        have := in6_calls _ _ (s.extract i s.size) w' hr (by rw [ext_size s i s.size hi (Nat.le_refl _)]; omega) (hT.ext hE)
        rw [tail_mem hswf hsl hse i hi] at this
        exact this)
      have HC : Hid (∀ v w', Rd (Ty.slice tyNd) w' [x.flat, y.flat] v → Calls Tryd.prog 10 #[.agg #[.int .i64 7, .int .u8 0], v] w' (MadePost ([x.flat, y.flat].flatten ++ [⟨7, 0⟩]) w')) := Lib.hid (fun v w' hr => rMade_calls ⟨7, 0⟩ (by decide) [x.flat, y.flat] (by simp; omega) v w' hr (by simp))
      have HS : Hid (∀ v w', Rd (Ty.slice tyNd) w' [x.flat] v → Calls Tryd.prog 10 #[.agg #[.int .i64 8, .int .u8 0], v] w' (MadePost ([x.flat].flatten ++ [⟨8, 0⟩]) w')) := Lib.hid (fun v w' hr => rMade_calls ⟨8, 0⟩ (by decide) [x.flat] (by simp; omega) v w' hr (by simp))
      have HO : Hid (∀ v w', Rd (Ty.slice tyNd) w' [x.flat, [⟨2, 0⟩]] v → Calls Tryd.prog 10 #[.agg #[.int .i64 7, .int .u8 0], v] w' (MadePost ([x.flat, [⟨2, 0⟩]].flatten ++ [⟨7, 0⟩]) w')) := Lib.hid (fun v w' hr => rMade_calls ⟨7, 0⟩ (by decide) [x.flat, [⟨2, 0⟩]] (by simp; omega) v w' hr (by simp))
      have HN : Hid (∀ v w', Rd (Ty.slice tyNd) w' [[⟨1, 0⟩], x.flat] v → Calls Tryd.prog 10 #[.agg #[.int .i64 7, .int .u8 0], v] w' (MadePost ([[⟨1, 0⟩], x.flat].flatten ++ [⟨7, 0⟩]) w')) := Lib.hid (fun v w' hr => rMade_calls ⟨7, 0⟩ (by decide) [[⟨1, 0⟩], x.flat] (by simp; omega) v w' hr (by simp))
      have MC := Lib.hid ((bin_mem hxw hyw hxl hyl hse ⟨7, 0⟩ (by decide) (by decide)).trans (cut_all _ _ _ _))
      have MS := Lib.hid ((un_mem hxw hxl hse ⟨8, 0⟩ (by decide) (by decide)).trans (star_all _ _ _))
      have MO := Lib.hid ((bin_mem (y := .leaf ⟨2, 0⟩) hxw ⟨by decide, by decide⟩ hxl (by decide) hse ⟨7, 0⟩ (by decide) (by decide)).trans (one_mem _ _ _))
      have MN := Lib.hid ((bin_mem (x := .leaf ⟨1, 0⟩) (y := x) ⟨by decide, by decide⟩ hxw (by decide) hxl hse ⟨7, 0⟩ (by decide) (by decide)).trans (nought_mem _ _ _))
      simp only [T.flat] at MO MN
      generalize [[(⟨1, 0⟩ : Nd)], x.flat].flatten ++ [(⟨7, 0⟩ : Nd)] = L4 at *
      generalize [x.flat, [(⟨2, 0⟩ : Nd)]].flatten ++ [(⟨7, 0⟩ : Nd)] = L3 at *
      generalize [x.flat].flatten ++ [(⟨8, 0⟩ : Nd)] = L2 at *
      generalize [x.flat, y.flat].flatten ++ [(⟨7, 0⟩ : Nd)] = L1 at *
      have HRa := Lib.hid hra
      have HRb := Lib.hid hrb
      have HCS := Lib.hid (cutTo_succ x y (bt s) s.size)
      have HSS := Lib.hid (starTo_succ x (bt s) s.size)
      have HS1 := Lib.hid (starTo_one x (bt s) s.size)
      generalize memB (bt s) s.size x = a at *
      clear hga hgb hT hra hrb ht1 ht2 hsl hswf hxl hyl hxw hyw hse
      go_enter Tryd.func4, Tryd.ntmps4
      go_wp2_with (first
        | ((go_at_call 7; (with_reducible refine (HGa.out).mono ?_); rintro e w1 ⟨rfl, h1⟩))
        | ((go_at_call 7; (with_reducible refine (HGb.out _ h1).mono ?_); rintro e w2 ⟨rfl, h2⟩); have E2 := h1.trans h2)
        | ((go_at_call 10; (with_reducible refine (HC.out _ _ (rd_lit2 (HRa.out.ext E2) (HRb.out.ext E2))).mono ?_); rintro e w5 ⟨v5, rfl, ho5, h5⟩); obtain ⟨A5, c5, rfl, _, _⟩ := ho5.shape; have E5 := (E2.alloc _).trans h5))
      go_loopw [8, 9] (fun v8 v9 wr => ∃ i : Nat, v9 = .int .i64 i ∧ i ≤ s.size + 1 ∧ v8 = .bool (cutTo x y (bt s) s.size i) ∧ Ext w5 wr) (fun _ v9 _ => s.size + 1 - (intOf v9).toNat)
      case atStart => exact ⟨0, rfl, by omega, rfl, Ext.refl _⟩
      case round =>
        clear h1 h2 h5
        obtain ⟨i, rfl, hi, rfl, he⟩ := hrel
        have Er := E5.trans he
        by_cases hlt : i < s.size + 1
        · have hle : i ≤ s.size := by omega
          have hle2 : ¬ ((s.size : Int) < (i : Int)) := by omega
          have HA := Lib.hid (HIt.out i hle)
          have HB := Lib.hid (HIu.out i hle)
          have HCi := Lib.hid (HCS.out i)
          cases hc : cutTo x y (bt s) s.size i with
          | true =>
            rw [hc] at HCi
            go_wp2_with fail
            go_roundw
            case rel => exact ⟨i + 1, by go_num, by omega, by rw [HCi.out]; rfl, he⟩
            case measure => simp [intOf]; omega
          | false =>
            rw [hc] at HCi
            cases ha : x.says (bt s) 0 i with
            | false =>
              rw [ha] at HA HCi
              go_wp2_with ((go_at_call 9; (with_reducible refine (HA.out _ Er).mono ?_); rintro e w6 ⟨rfl, h6⟩))
              go_roundw
              case rel => exact ⟨i + 1, by go_num, by omega, by rw [HCi.out]; rfl, he.trans h6⟩
              case measure => simp [intOf]; omega
            | true =>
              rw [ha] at HA HCi
              go_wp2_with (first
                | ((go_at_call 9; (with_reducible refine (HA.out _ Er).mono ?_); rintro e w6 ⟨rfl, h6⟩))
                | ((go_at_call 9; (with_reducible refine (HB.out _ (Er.trans h6)).mono ?_); rintro e w7 ⟨rfl, h7⟩)))
              go_roundw
              case rel => exact ⟨i + 1, by go_num, by omega, by rw [HCi.out]; rfl, (he.trans h6).trans h7⟩
              case measure => simp [intOf]; omega
        · have hi' : i = s.size + 1 := by omega
          subst hi'
          clear HIu hlt hi HCS
          go_wp2_with ((go_at_call 10; (with_reducible refine (HS.out _ _ (rd_lit1 (HRa.out.ext Er))).mono ?_); rintro e w6 ⟨v6, rfl, ho6, h6⟩); obtain ⟨A6, c6, rfl, _, _⟩ := ho6.shape; have E6 := (Er.alloc _).trans h6; have he6 := (he.alloc _).trans h6)
          go_loopw [11, 12] (fun v11 v12 wq => ∃ j : Nat, v12 = .int .i64 j ∧ 1 ≤ j ∧ j ≤ s.size + 1 ∧ v11 = .bool (starTo x (bt s) s.size j) ∧ Ext w6 wq) (fun _ v12 _ => s.size + 1 - (intOf v12).toNat)
          case atStart => exact ⟨1, rfl, by omega, by omega, congrArg Value.bool (by rw [HS1.out, Bool.eq_iff_iff]; simp), Ext.refl _⟩
          case round =>
            clear h6
            obtain ⟨j, rfl, hj1, hj, rfl, heq⟩ := hrel
            have Eq := E6.trans heq
            by_cases hlt : j < s.size + 1
            · have hle : j ≤ s.size := by omega
              have hle2 : ¬ ((s.size : Int) < (j : Int)) := by omega
              have HA := Lib.hid (HIt.out j hle)
              have HB := Lib.hid (HIs.out j hle)
              have HSj := Lib.hid (HSS.out j hj1)
              cases hc : starTo x (bt s) s.size j with
              | true =>
                rw [hc] at HSj
                go_wp2_with fail
                go_roundw
                case rel => exact ⟨j + 1, by go_num, by omega, by omega, by rw [HSj.out]; rfl, heq⟩
                case measure => simp [intOf]; omega
              | false =>
                rw [hc] at HSj
                cases ha : x.says (bt s) 0 j with
                | false =>
                  rw [ha] at HA HSj
                  go_wp2_with ((go_at_call 9; (with_reducible refine (HA.out _ Eq).mono ?_); rintro e w7 ⟨rfl, h7⟩))
                  go_roundw
                  case rel => exact ⟨j + 1, by go_num, by omega, by omega, by rw [HSj.out]; rfl, heq.trans h7⟩
                  case measure => simp [intOf]; omega
                | true =>
                  rw [ha] at HA HSj
                  go_wp2_with (first
                    | ((go_at_call 9; (with_reducible refine (HA.out _ Eq).mono ?_); rintro e w7 ⟨rfl, h7⟩))
                    | ((go_at_call 9; (with_reducible refine (HB.out _ _ (Eq.trans h7) (ho6.rd.ext (heq.trans h7))).mono ?_); rintro e w8 ⟨rfl, h8⟩)))
                  go_roundw
                  case rel => exact ⟨j + 1, by go_num, by omega, by omega, by rw [HSj.out]; rfl, (heq.trans h7).trans h8⟩
                  case measure => simp [intOf]; omega
            · have hj' : j = s.size + 1 := by omega
              subst hj'
              clear HIt HIs hlt hj hj1 HSS HS1
              generalize cutTo x y (bt s) s.size (s.size + 1) = cv at *
              generalize starTo x (bt s) s.size (s.size + 1) = sv at *
              have he5 := he6.trans heq
              cases cv <;> cases sv <;> cases a
              all_goals
                go_wp2_with (first
                  | ((go_at_call 10; (with_reducible refine (HO.out _ _ (rd_lit2at (by simp) (HRa.out.ext (Eq.alloc _)) (lit_leaf _ _ 2))).mono ?_); rintro e w7 ⟨v7, rfl, ho7, h7⟩); obtain ⟨A7, c7, rfl, _, _⟩ := ho7.shape; have g7 := (((Ext.refl _).alloc _).alloc _).trans h7; have E7 := Eq.trans g7)
                  | ((go_at_call 10; (with_reducible refine (HN.out _ _ (rd_lit2at (by simp) (lit_leaf _ _ 1) (HRa.out.ext (E7.alloc _)))).mono ?_); rintro e w8 ⟨v8, rfl, ho8, h8⟩); obtain ⟨A8, c8, rfl, _, _⟩ := ho8.shape; have g8 := (((Ext.refl w7).alloc _).alloc _).trans h8; have E8 := E7.trans g8)
                  | ((go_at_call 9; (with_reducible refine (HIn.out L1 _ _ E8 (ho5.rd.ext ((he5.trans g7).trans g8))).mono ?_); rintro e w9 ⟨rfl, h9⟩); rw [MC.out]; have E9 := E8.trans h9)
                  | ((go_at_call 9; (with_reducible refine (HIn.out L2 _ _ E9 (ho6.rd.ext (((heq.trans g7).trans g8).trans h9))).mono ?_); rintro e w10 ⟨rfl, h10⟩); rw [MS.out]; have E10 := E9.trans h10)
                  | ((go_at_call 9; (with_reducible refine (HIn.out L3 _ _ E10 (ho7.rd.ext ((g8.trans h9).trans h10))).mono ?_); rintro e w11 ⟨rfl, h11⟩); rw [MO.out]; have E11 := E10.trans h11)
                  | ((go_at_call 9; (with_reducible refine (HIa.out _ E11).mono ?_); rintro e w12 ⟨rfl, h12⟩); have E12 := E11.trans h12)
                  | ((go_at_call 9; (with_reducible refine (HIn.out L4 _ _ E12 (ho8.rd.ext (((h9.trans h10).trans h11).trans h12))).mono ?_); rintro e w13 ⟨rfl, h13⟩); rw [MN.out]; have E13 := E12.trans h13)
                  | ((go_at_call 8; (with_reducible refine (HLv.out _ E13).mono ?_); rintro e w14 ⟨rfl, h14⟩)))
                go_ret
                exact ⟨rfl, E13.trans h14⟩
end Go.Proofs.YtdeppnamhdbbhaaDoor
namespace Go.Proofs.YtdeppnamhdbbhaaDoor.matchKleene
open Go.ChangeShapes Go.WideShapes Go.ChangeAt Go.RowKit Go.Eg
theorem own : ownKnob Tryd.prog.godebug = none := by kernel_rfl
theorem laidOut : laidOutB Tryd.prog = true := by kernel_rfl
set_option maxRecDepth 100000 in
theorem lifted (os : Os) (started : os.Started) (H : Type) (enc : TypeId × Value → H) :
    ReturnsInHanded {} Tryd.checked os 4 .any (fun w args => (Rows.matchKleeneSpec.pre enc Tryd.prog Tryd.f4 [] false w args ∧ laidMetH Tryd.prog tabLaid w) ∧ sizedMet enc Tryd.prog Tryd.f4 (OpenSpec.ofChange Rows.matchKleeneSpec) false w args) (Rows.matchKleeneSpec.post enc Tryd.prog Tryd.f4 false true false false) := by
  refine returnsInHanded_of_change_and (C := Tryd.checked) (X := fun w _ => laidMetH Tryd.prog tabLaid w) (fun _ _ _ hh h => h.of_heap hh) own started (by kernel_rfl) Tryd.func4
    (ChangeSpec.witness_shaped (enc := enc) (C := Tryd.checked) (os := os) (X := fun w _ => laidMetH Tryd.prog tabLaid w) false (World.doorLaid Tryd.prog 400 os) #[.slice none 0 0, .slice none 0 0, .string ByteArray.empty] 8 rfl (World.shaped_of_RefB (by kernel_rfl) (by kernel_rfl)) (by kernel_rfl) (by kernel_rfl) (by kernel_rfl) (door_met os _)) ?_
  intro W base args ds gs before hval0 hW hcnd hsz0 hL _
  have hT := tab_of_laid hL
  have hsz : (DataW.weightsEach Tryd.prog (Tryd.f4.params.toList ++ Rows.matchKleeneSpec.plain.varTypes Tryd.prog) (ds ++ gs)).all (· ≤ reachBytes) = true := hsz0
  have hval : ∀ (j : Nat) t v, Tryd.f4.params[j]? = some t → args[j]? = some v → Value.okWide Tryd.prog W .any base t v := hval0
  have hW' := hW
  obtain ⟨p, q, hA0, hV, rfl, hfz, hnd⟩ := hW
  have hA : DataW.TrodAll enc Tryd.prog W 0 (fun _ => true) true Tryd.f4.params.toList args.toList ds p := hA0
  rw [Tryd.params4] at hA hval hsz
  obtain ⟨v0, vs0, d0, ds0, p0, q0, hargs, rfl, rfl, h0, r0⟩ := trodAll_cons hA
  obtain ⟨v1, vs1, d1, ds1, p1, q1, rfl, rfl, rfl, h1, r1⟩ := trodAll_cons r0
  obtain ⟨v2, vs2, d2, ds2, p2, q2, rfl, rfl, rfl, h2, r2⟩ := trodAll_cons r1
  obtain ⟨rfl, rfl, rfl⟩ := trodAll_nil r2
  obtain rfl : args = #[v0, v1, v2] := by cases args; simp_all
  obtain ⟨rfl, rfl⟩ := trodVars_none hV
  obtain ⟨x0, e0, b0⟩ := arg_nodes (hval 0 _ v0 rfl rfl) h0 (fits_each hsz (j := 0) rfl rfl)
  obtain ⟨x1, e1, b1⟩ := arg_nodes (hval 1 _ v1 rfl rfl) h1 (fits_each hsz (j := 1) rfl rfl)
  obtain ⟨x2, rfl, b2⟩ := arg_str (hval 2 _ v2 rfl rfl) h2 (fits_each hsz (j := 2) rfl rfl)
  have l0 := trod_low h0
  have l1 := trod_low h1
  have l2 := trod_low h2
  clear hA0 hval0 hsz0 hsz
  refine (lawKleene_calls x0 x1 x2 W hT _ e0 b0 _ e1 b1 b2).mono fun e W' ⟨he, bel⟩ => ?_
  subst he
  replace bel : Below W.heap.size W W' := bel
  exact ⟨_, rfl, _, _, _, [], _, [], hW', trodAll_mk1 (shut_bool Tryd.underlying4 _), (trodAll_cons_mk (Below.trod laidOut (by kernel_rfl) (of_decide_eq_true (by kernel_rfl)) h0 bel l0) (trodAll_cons_mk (Below.trod laidOut (by kernel_rfl) (of_decide_eq_true (by kernel_rfl)) h1 bel l1) (trodAll_cons_mk (Below.trod laidOut (by kernel_rfl) (of_decide_eq_true (by kernel_rfl)) h2 bel l2) trodAll_mk0))), rfl, bel.frame _, fun h => by cases h⟩
theorem over : Rows.matchKleeneRow.holds Tryd.pinned (OpenSpec.ofChange Rows.matchKleeneSpec) :=
  OpenClaim.holds_of_wide 4 Tryd.f4 rfl rfl rfl rfl rfl rfl rfl ⟨rfl, rfl, rfl, rfl, rfl⟩ rfl rfl rfl rfl rfl (by kernel_rfl) Tryd.func4 (by kernel_rfl)
    (of_decide_eq_true (by kernel_rfl)) (by unfold Func.isWrapper; first | (rw [if_pos (by decide +kernel)]; kernel_rfl) | (rw [if_neg (by decide +kernel)]; exact ⟨rfl, rfl⟩))
    (fun os started H enc _ => lifted os started H enc)
theorem proved : Rows.MatchKleeneSaid := over
theorem carded : Rows.MatchKleeneCardSaid :=
  Claim7.holds_tied_plain_at .later [] [.data] true Rows.matchKleeneCard.stood.harness false
    proved (fun _ h => by cases h) (by kernel_rfl) (fun _ h => by cases h) matchKleene_row_tie rfl ⟨rfl, rfl⟩ (by kernel_rfl) rfl
    (fun f fn hf hfn => by
      obtain rfl : f = 4 := Option.some.inj ((show Tryd.prog.funcNamed "eggbox/eggboxlaw06.MatchKleene" = some 4 by kernel_rfl).symm.trans hf) |>.symm
      obtain rfl : fn = Tryd.f4 := (Option.some.inj (Tryd.func4.symm.trans hfn)).symm
      exact ⟨by kernel_rfl, fun j t ht => by
        rw [Tryd.params4] at ht
        have hm : t ∈ [22, 9] := by simpa using Array.mem_of_getElem? ht
        have hall : ([22, 9].all fun u => !Tryd.prog.wantsStandIn u) = true := by kernel_rfl
        exact (show Tryd.prog.wantsStandIn t = false by simpa using List.all_eq_true.1 hall t hm)⟩)
    (by kernel_rfl)
end Go.Proofs.YtdeppnamhdbbhaaDoor.matchKleene
namespace Go.Proofs.YtdeppnamhdbbhaaDoor
/-- The card, for the claim. -/
theorem matchKleene_holds : Rows.MatchKleeneCardSaid := matchKleene.carded
end Go.Proofs.YtdeppnamhdbbhaaDoor
