/- The card of the law MatchMoved, out of its walk. Conditions: none. -/
import Derived.WalkKit
import Derived.ProofKit
import Derived.OpenShut
import Derived.ShutString
import Derived.ChangeOld
import Derived.Below
import Derived.SizedLaws
import Derived.Carry
import Derived.LaidMore
import Derived.Stop.Joined
import Derived.SevenTiedAt
import Derived.Test.YtdeppnamhdbbhaaDoorCards
import Derived.Test.YtdeppnamhdbbhaaDoorTie
import Derived.Test.YtdeppnamhdbbhaaDoorZ3
namespace Go.Proofs.YtdeppnamhdbbhaaDoor
open Go.RowKit Go.Eg

theorem bt_ext (s : ByteArray) (i j m : Nat) (h : i + m < j) : bt (s.extract i j) m = bt s (i + m) := by
  have hd : (s.extract i j).data.toList = (s.data.toList.drop i).take (j - i) := by
    simp only [ByteArray.data_extract, Array.toList_extract, List.extract]
  unfold bt
  rw [hd, List.getD_eq_getElem?_getD, List.getD_eq_getElem?_getD, List.getElem?_take, if_pos (by omega), List.getElem?_drop]
theorem word_all {s : ByteArray} (h : wordE s = 0) : ∀ m, m < s.size → 97 ≤ bt s m ∧ bt s m ≤ 104 := by
  intro m hm
  rcases Classical.em (97 ≤ bt s m ∧ bt s m ≤ 104) with h1 | h1
  · exact h1
  · rw [word_bad hm h1] at h; cases h
theorem ext_size (s : ByteArray) (i j : Nat) (hij : i ≤ j) (hj : j ≤ s.size) : (s.extract i j).size = j - i := by rw [ByteArray.size_extract]; omega
theorem word_ext0 {s : ByteArray} (h : wordE s = 0) (i j : Nat) (hij : i ≤ j) (hj : j ≤ s.size) : wordE (s.extract i j) = 0 := by
  have hs := word_size h
  have hz := ext_size s i j hij hj
  rw [word_good (fun m hm => by rw [hz] at hm; rw [bt_ext s i j m (by omega)]; exact word_all h _ (by omega)), if_neg (by omega)]
section
variable {x : T} {s : ByteArray} (hw : x.wf) (hl : x.flat.length ≤ 4000) (hs : wordE s = 0)
include hw hl hs
theorem head_mem (i : Nat) (hi : i ≤ s.size) : memR x.flat (s.extract 0 i) = x.says (bt s) 0 i := by
  rw [memR_flat hw hl (word_ext0 hs 0 i (by omega) hi), ext_size s 0 i (by omega) hi, Nat.sub_zero]
  exact mem_head _ _ x i (fun m hm => by rw [bt_ext s 0 i m (by omega), Nat.zero_add])
theorem tail_mem (i : Nat) (hi : i ≤ s.size) : memR x.flat (s.extract i s.size) = x.says (bt s) i s.size := by
  rw [memR_flat hw hl (word_ext0 hs i s.size hi (Nat.le_refl _)), ext_size s i s.size hi (Nat.le_refl _), ← mem_piece (bt s) x i s.size hi]
  exact mem_head (fun m => bt s (m + i)) _ x (s.size - i) (fun m hm => by rw [bt_ext s i s.size m (by omega), Nat.add_comm])
end
/-- By the first k cuts. -/
def cutTo (x y : T) (c : Nat → Int) (n k : Nat) : Bool := (List.range k).any fun i => x.says c 0 i && y.says c i n
theorem cutTo_succ (x y : T) (c : Nat → Int) (n k : Nat) : cutTo x y c n (k + 1) = (cutTo x y c n k || (x.says c 0 k && y.says c k n)) := by simp [cutTo, List.range_succ]
theorem cut_all (x y : T) (c : Nat → Int) (n : Nat) : memB c n (.bin ⟨7, 0⟩ x y) = cutTo x y c n (n + 1) := by
  rw [Bool.eq_iff_iff, mem_concat]
  simp only [cutTo, List.any_eq_true, List.mem_range, Bool.and_eq_true]
  constructor
  · rintro ⟨i, h1, h2, h3⟩; exact ⟨i, by omega, h2, h3⟩
  · rintro ⟨i, h1, h2, h3⟩; exact ⟨i, by omega, h2, h3⟩
/-- The empty word, or by the first k cuts behind a letter. -/
def starTo (x : T) (c : Nat → Int) (n k : Nat) : Bool := decide (n = 0) || (List.range k).any fun i => decide (1 ≤ i) && (x.says c 0 i && (T.un ⟨8, 0⟩ x).says c i n)
theorem starTo_one (x : T) (c : Nat → Int) (n : Nat) : starTo x c n 1 = decide (n = 0) := by simp [starTo, List.range_succ]
theorem starTo_succ (x : T) (c : Nat → Int) (n k : Nat) (hk : 1 ≤ k) : starTo x c n (k + 1) = (starTo x c n k || (x.says c 0 k && (T.un ⟨8, 0⟩ x).says c k n)) := by
  simp [starTo, List.range_succ, hk, Bool.or_assoc]
theorem star_all (x : T) (c : Nat → Int) (n : Nat) : memB c n (.un ⟨8, 0⟩ x) = starTo x c n (n + 1) := by
  rw [Bool.eq_iff_iff, mem_star]
  simp only [starTo, Bool.or_eq_true, decide_eq_true_eq, List.any_eq_true, List.mem_range, Bool.and_eq_true]
  constructor
  · rintro (h | ⟨i, h0, h1, h2, h3⟩)
    · exact .inl h
    · exact .inr ⟨i, by omega, h0, h2, h3⟩
  · rintro (h | ⟨i, h1, h0, h2, h3⟩)
    · exact .inl h
    · exact .inr ⟨i, h0, by omega, h2, h3⟩
theorem one_mem (x : T) (c : Nat → Int) (n : Nat) : memB c n (.bin ⟨7, 0⟩ x (.leaf ⟨2, 0⟩)) = memB c n x := by
  rw [Bool.eq_iff_iff, mem_concat]
  have e : ∀ i j, (T.leaf ⟨2, 0⟩).says c i j = (i == j) := fun i j => rfl
  constructor
  · rintro ⟨i, h1, h2, h3⟩
    rw [e, beq_iff_eq] at h3
    subst h3; exact h2
  · intro h; exact ⟨n, Nat.le_refl _, h, by rw [e]; simp⟩
theorem nought_mem (x : T) (c : Nat → Int) (n : Nat) : memB c n (.bin ⟨7, 0⟩ (.leaf ⟨1, 0⟩) x) = false := by
  cases h : memB c n (.bin ⟨7, 0⟩ (.leaf ⟨1, 0⟩) x)
  · rfl
  · obtain ⟨i, _, h2, _⟩ := (mem_concat c n _ _).1 h
    have e : (T.leaf ⟨1, 0⟩).says c 0 i = false := rfl
    rw [e] at h2; cases h2

theorem lit_leaf (W : World) (e : TypeId) (k : Int) : Rd tyNd (W.alloc (.cells #[.int .i64 k, .int .u8 0] e)) [⟨k, 0⟩] (.slice (some ⟨W.heap.size, 0, none⟩) 1 1) :=
  SlP.one (t := tyNd) ⟨k, 0⟩ _ (fun _ _ => ⟨rfl, by simp⟩)
theorem rd_lit2at {w : World} {e : TypeId} {x y : List Nd} {u u' : Value} {b : Nat} (hb : b = w.heap.size) (h : Rd tyNd w x u) (h' : Rd tyNd w y u') : Rd (Ty.slice tyNd) (w.alloc (.cells #[u, u'] e)) [x, y] (.slice (some ⟨b, 0, none⟩) 2 2) := by
  subst hb; exact rd_lit2 h h'
set_option maxHeartbeats 16000000 in
set_option maxRecDepth 100000 in
theorem lawKleene_calls (t u : List Nd) (s : ByteArray) (w : World) (hT : Tab w) (va : Value) (hra : Rd tyNd w t va) (hla : t.length * 16 ≤ 140737488351232) (vb : Value) (hrb : Rd tyNd w u vb) (hlb : u.length * 16 ≤ 140737488351232) (hs : s.size ≤ 140737488351232) :
    Calls Tryd.prog 4 #[va, vb, .string s] w fun e w' => e = .returned (.bool true) ∧ Ext w w' := by
  obtain ⟨A1, c1, rfl, hl1, hm1⟩ := hra.shape
  obtain ⟨A2, c2, rfl, hl2, hm2⟩ := hrb.shape
  have HGa := Lib.hid (good6_calls t _ s w hra (by omega))
  have HGb := Lib.hid (fun w' (hE : Ext w w') => good6_calls u _ s w' (hrb.ext hE) (by omega))
  have HLv := Lib.hid (fun w' (hE : Ext w w') => live6_calls w' (hT.ext hE))
  cases hga : goodR t s with
  | false =>
    rw [hga] at HGa
    clear hga hT hra hrb
    go_enter Tryd.func4, Tryd.ntmps4
    go_wp2_with (first
      | ((go_at_call 7; (with_reducible refine (HGa.out).mono ?_); rintro e w1 ⟨rfl, h1⟩))
      | ((go_at_call 8; (with_reducible refine (HLv.out _ h1).mono ?_); rintro e w2 ⟨rfl, h2⟩)))
    go_ret
    exact ⟨rfl, h1.trans h2⟩
  | true =>
    cases hgb : goodR u s with
    | false =>
      rw [hga] at HGa
      rw [hgb] at HGb
      clear hga hgb hT hra hrb
      go_enter Tryd.func4, Tryd.ntmps4
      go_wp2_with (first
        | ((go_at_call 7; (with_reducible refine (HGa.out).mono ?_); rintro e w1 ⟨rfl, h1⟩))
        | ((go_at_call 7; (with_reducible refine (HGb.out _ h1).mono ?_); rintro e w2 ⟨rfl, h2⟩))
        | ((go_at_call 8; (with_reducible refine (HLv.out _ (h1.trans h2)).mono ?_); rintro e w3 ⟨rfl, h3⟩)))
      go_ret
      exact ⟨rfl, (h1.trans h2).trans h3⟩
    | true =>
      obtain ⟨x, hxw, rfl, hxl, hse, hs5⟩ := good_of hga
      obtain ⟨y, hyw, rfl, hyl, _, _⟩ := good_of hgb
      rw [hga] at HGa
      rw [hgb] at HGb
      have ht1 : (x.flat).length ≤ 4000 := by omega
      have ht2 : (y.flat).length ≤ 4000 := by omega
      have HIn := Lib.hid (fun (L : List Nd) v w' (hE : Ext w w') (hr : Rd tyNd w' L v) => in6_calls L v s w' hr hs (hT.ext hE))
      have HIa := Lib.hid (fun w' (hE : Ext w w') => in6_calls x.flat _ s w' (hra.ext hE) hs (hT.ext hE))
      rw [memR_flat hxw ht1 hse] at HIa
      have HIt : Hid (∀ i, i ≤ s.size → ∀ w', Ext w w' → Calls Tryd.prog 9 #[.slice A1 x.flat.length c1, .string (s.extract 0 i)] w' fun e w'' => e = .returned (.bool (x.says (bt s) 0 i)) ∧ Ext w' w'') := Lib.hid (fun i hi w' hE => by
        have := in6_calls x.flat _ (s.extract 0 i) w' (hra.ext hE) (by rw [ext_size s 0 i (by omega) hi]; omega) (hT.ext hE)
        rw [head_mem hxw ht1 hse i hi] at this
        exact this)
      have HIu : Hid (∀ i, i ≤ s.size → ∀ w', Ext w w' → Calls Tryd.prog 9 #[.slice A2 y.flat.length c2, .string (s.extract i s.size)] w' fun e w'' => e = .returned (.bool (y.says (bt s) i s.size)) ∧ Ext w' w'') := Lib.hid (fun i hi w' hE => by
        have := in6_calls y.flat _ (s.extract i s.size) w' (hrb.ext hE) (by rw [ext_size s i s.size hi (Nat.le_refl _)]; omega) (hT.ext hE)
        rw [tail_mem hyw ht2 hse i hi] at this
        exact this)
      have hswf : (T.un ⟨8, 0⟩ x).wf := ⟨by decide, by decide, hxw⟩
      have hsl : (T.un ⟨8, 0⟩ x).flat.length ≤ 4000 := by simp [T.flat]; omega
      have HIs : Hid (∀ i, i ≤ s.size → ∀ v w', Ext w w' → Rd tyNd w' ([x.flat].flatten ++ [⟨8, 0⟩]) v → Calls Tryd.prog 9 #[v, .string (s.extract i s.size)] w' fun e w'' => e = .returned (.bool ((T.un ⟨8, 0⟩ x).says (bt s) i s.size)) ∧ Ext w' w'') := Lib.hid (fun i hi v w' hE hr => by
        rw [un_flat] at hr
        have := in6_calls _ _ (s.extract i s.size) w' hr (by rw [ext_size s i s.size hi (Nat.le_refl _)]; omega) (hT.ext hE)
        rw [tail_mem hswf hsl hse i hi] at this
        exact this)
      have HC : Hid (∀ v w', Rd (Ty.slice tyNd) w' [x.flat, y.flat] v → Calls Tryd.prog 10 #[.agg #[.int .i64 7, .int .u8 0], v] w' (MadePost ([x.flat, y.flat].flatten ++ [⟨7, 0⟩]) w')) := Lib.hid (fun v w' hr => rMade_calls ⟨7, 0⟩ (by decide) [x.flat, y.flat] (by simp; omega) v w' hr (by simp))
      have HS : Hid (∀ v w', Rd (Ty.slice tyNd) w' [x.flat] v → Calls Tryd.prog 10 #[.agg #[.int .i64 8, .int .u8 0], v] w' (MadePost ([x.flat].flatten ++ [⟨8, 0⟩]) w')) := Lib.hid (fun v w' hr => rMade_calls ⟨8, 0⟩ (by decide) [x.flat] (by simp; omega) v w' hr (by simp))
      have HO : Hid (∀ v w', Rd (Ty.slice tyNd) w' [x.flat, [⟨2, 0⟩]] v → Calls Tryd.prog 10 #[.agg #[.int .i64 7, .int .u8 0], v] w' (MadePost ([x.flat, [⟨2, 0⟩]].flatten ++ [⟨7, 0⟩]) w')) := Lib.hid (fun v w' hr => rMade_calls ⟨7, 0⟩ (by decide) [x.flat, [⟨2, 0⟩]] (by simp; omega) v w' hr (by simp))
      have HN : Hid (∀ v w', Rd (Ty.slice tyNd) w' [[⟨1, 0⟩], x.flat] v → Calls Tryd.prog 10 #[.agg #[.int .i64 7, .int .u8 0], v] w' (MadePost ([[⟨1, 0⟩], x.flat].flatten ++ [⟨7, 0⟩]) w')) := Lib.hid (fun v w' hr => rMade_calls ⟨7, 0⟩ (by decide) [[⟨1, 0⟩], x.flat] (by simp; omega) v w' hr (by simp))
      have MC := Lib.hid ((bin_mem hxw hyw hxl hyl hse ⟨7, 0⟩ (by decide) (by decide)).trans (cut_all _ _ _ _))
      have MS := Lib.hid ((un_mem hxw hxl hse ⟨8, 0⟩ (by decide) (by decide)).trans (star_all _ _ _))
      have MO := Lib.hid ((bin_mem (y := .leaf ⟨2, 0⟩) hxw ⟨by decide, by decide⟩ hxl (by decide) hse ⟨7, 0⟩ (by decide) (by decide)).trans (one_mem _ _ _))
      have MN := Lib.hid ((bin_mem (x := .leaf ⟨1, 0⟩) (y := x) ⟨by decide, by decide⟩ hxw (by decide) hxl hse ⟨7, 0⟩ (by decide) (by decide)).trans (nought_mem _ _ _))
      simp only [T.flat] at MO MN
      generalize [[(⟨1, 0⟩ : Nd)], x.flat].flatten ++ [(⟨7, 0⟩ : Nd)] = L4 at *
      generalize [x.flat, [(⟨2, 0⟩ : Nd)]].flatten ++ [(⟨7, 0⟩ : Nd)] = L3 at *
      generalize [x.flat].flatten ++ [(⟨8, 0⟩ : Nd)] = L2 at *
      generalize [x.flat, y.flat].flatten ++ [(⟨7, 0⟩ : Nd)] = L1 at *
      have HRa := Lib.hid hra
      have HRb := Lib.hid hrb
      have HCS := Lib.hid (cutTo_succ x y (bt s) s.size)
      have HSS := Lib.hid (starTo_succ x (bt s) s.size)
      have HS1 := Lib.hid (starTo_one x (bt s) s.size)
      generalize memB (bt s) s.size x = a at *
      clear hga hgb hT hra hrb ht1 ht2 hsl hswf hxl hyl hxw hyw hse
      go_enter Tryd.func4, Tryd.ntmps4
      go_wp2_with (first
        | ((go_at_call 7; (with_reducible refine (HGa.out).mono ?_); rintro e w1 ⟨rfl, h1⟩))
        | ((go_at_call 7; (with_reducible refine (HGb.out _ h1).mono ?_); rintro e w2 ⟨rfl, h2⟩); have E2 := h1.trans h2)
        | ((go_at_call 10; (with_reducible refine (HC.out _ _ (rd_lit2 (HRa.out.ext E2) (HRb.out.ext E2))).mono ?_); rintro e w5 ⟨v5, rfl, ho5, h5⟩); obtain ⟨A5, c5, rfl, _, _⟩ := ho5.shape; have E5 := (E2.alloc _).trans h5))
      go_loopw [8, 9] (fun v8 v9 wr => ∃ i : Nat, v9 = .int .i64 i ∧ i ≤ s.size + 1 ∧ v8 = .bool (cutTo x y (bt s) s.size i) ∧ Ext w5 wr) (fun _ v9 _ => s.size + 1 - (intOf v9).toNat)
      case atStart => exact ⟨0, rfl, by omega, rfl, Ext.refl _⟩
      case round =>
        clear h1 h2 h5
        obtain ⟨i, rfl, hi, rfl, he⟩ := hrel
        have Er := E5.trans he
        by_cases hlt : i < s.size + 1
        · have hle : i ≤ s.size := by omega
          have hle2 : ¬ ((s.size : Int) < (i : Int)) := by omega
          have HA := Lib.hid (HIt.out i hle)
          have HB := Lib.hid (HIu.out i hle)
          have HCi := Lib.hid (HCS.out i)
          cases hc : cutTo x y (bt s) s.size i with
          | true =>
            rw [hc] at HCi
            go_wp2_with fail
            go_roundw
            case rel => exact ⟨i + 1, by go_num, by omega, by rw [HCi.out]; rfl, he⟩
            case measure => simp [intOf]; omega
          | false =>
            rw [hc] at HCi
            cases ha : x.says (bt s) 0 i with
            | false =>
              rw [ha] at HA HCi
              go_wp2_with ((go_at_call 9; (with_reducible refine (HA.out _ Er).mono ?_); rintro e w6 ⟨rfl, h6⟩))
              go_roundw
              case rel => exact ⟨i + 1, by go_num, by omega, by rw [HCi.out]; rfl, he.trans h6⟩
              case measure => simp [intOf]; omega
            | true =>
              rw [ha] at HA HCi
              go_wp2_with (first
                | ((go_at_call 9; (with_reducible refine (HA.out _ Er).mono ?_); rintro e w6 ⟨rfl, h6⟩))
                | ((go_at_call 9; (with_reducible refine (HB.out _ (Er.trans h6)).mono ?_); rintro e w7 ⟨rfl, h7⟩)))
              go_roundw
              case rel => exact ⟨i + 1, by go_num, by omega, by rw [HCi.out]; rfl, (he.trans h6).trans h7⟩
              case measure => simp [intOf]; omega
        · have hi' : i = s.size + 1 := by omega
          subst hi'
          clear HIu hlt hi HCS
          go_wp2_with ((go_at_call 10; (with_reducible refine (HS.out _ _ (rd_lit1 (HRa.out.ext Er))).mono ?_); rintro e w6 ⟨v6, rfl, ho6, h6⟩); obtain ⟨A6, c6, rfl, _, _⟩ := ho6.shape; have E6 := (Er.alloc _).trans h6; have he6 := (he.alloc _).trans h6)
          go_loopw [11, 12] (fun v11 v12 wq => ∃ j : Nat, v12 = .int .i64 j ∧ 1 ≤ j ∧ j ≤ s.size + 1 ∧ v11 = .bool (starTo x (bt s) s.size j) ∧ Ext w6 wq) (fun _ v12 _ => s.size + 1 - (intOf v12).toNat)
          case atStart => exact ⟨1, rfl, by omega, by omega, congrArg Value.bool (by rw [HS1.out, Bool.eq_iff_iff]; simp), Ext.refl _⟩
          case round =>
            clear h6
            obtain ⟨j, rfl, hj1, hj, rfl, heq⟩ := hrel
            have Eq := E6.trans heq
            by_cases hlt : j < s.size + 1
            · have hle : j ≤ s.size := by omega
              have hle2 : ¬ ((s.size : Int) < (j : Int)) := by omega
              have HA := Lib.hid (HIt.out j hle)
              have HB := Lib.hid (HIs.out j hle)
              have HSj := Lib.hid (HSS.out j hj1)
              cases hc : starTo x (bt s) s.size j with
              | true =>
                rw [hc] at HSj
                go_wp2_with fail
                go_roundw
                case rel => exact ⟨j + 1, by go_num, by omega, by omega, by rw [HSj.out]; rfl, heq⟩
                case measure => simp [intOf]; omega
              | false =>
                rw [hc] at HSj
                cases ha : x.says (bt s) 0 j with
                | false =>
                  rw [ha] at HA HSj
                  go_wp2_with ((go_at_call 9; (with_reducible refine (HA.out _ Eq).mono ?_); rintro e w7 ⟨rfl, h7⟩))
                  go_roundw
                  case rel => exact ⟨j + 1, by go_num, by omega, by omega, by rw [HSj.out]; rfl, heq.trans h7⟩
                  case measure => simp [intOf]; omega
                | true =>
                  rw [ha] at HA HSj
                  go_wp2_with (first
                    | ((go_at_call 9; (with_reducible refine (HA.out _ Eq).mono ?_); rintro e w7 ⟨rfl, h7⟩))
                    | ((go_at_call 9; (with_reducible refine (HB.out _ _ (Eq.trans h7) (ho6.rd.ext (heq.trans h7))).mono ?_); rintro e w8 ⟨rfl, h8⟩)))
                  go_roundw
                  case rel => exact ⟨j + 1, by go_num, by omega, by omega, by rw [HSj.out]; rfl, (heq.trans h7).trans h8⟩
                  case measure => simp [intOf]; omega
            · have hj' : j = s.size + 1 := by omega
              subst hj'
              clear HIt HIs hlt hj hj1 HSS HS1
              generalize cutTo x y (bt s) s.size (s.size + 1) = cv at *
              generalize starTo x (bt s) s.size (s.size + 1) = sv at *
              have he5 := he6.trans heq
              cases cv <;> cases sv <;> cases a
              all_goals
                go_wp2_with (first
                  | ((go_at_call 10; (with_reducible refine (HO.out _ _ (rd_lit2at (by simp) (HRa.out.ext (Eq.alloc _)) (lit_leaf _ _ 2))).mono ?_); rintro e w7 ⟨v7, rfl, ho7, h7⟩); obtain ⟨A7, c7, rfl, _, _⟩ := ho7.shape; have g7 := (((Ext.refl _).alloc _).alloc _).trans h7; have E7 := Eq.trans g7)
                  | ((go_at_call 10; (with_reducible refine (HN.out _ _ (rd_lit2at (by simp) (lit_leaf _ _ 1) (HRa.out.ext (E7.alloc _)))).mono ?_); rintro e w8 ⟨v8, rfl, ho8, h8⟩); obtain ⟨A8, c8, rfl, _, _⟩ := ho8.shape; have g8 := (((Ext.refl w7).alloc _).alloc _).trans h8; have E8 := E7.trans g8)
                  | ((go_at_call 9; (with_reducible refine (HIn.out L1 _ _ E8 (ho5.rd.ext ((he5.trans g7).trans g8))).mono ?_); rintro e w9 ⟨rfl, h9⟩); rw [MC.out]; have E9 := E8.trans h9)
                  | ((go_at_call 9; (with_reducible refine (HIn.out L2 _ _ E9 (ho6.rd.ext (((heq.trans g7).trans g8).trans h9))).mono ?_); rintro e w10 ⟨rfl, h10⟩); rw [MS.out]; have E10 := E9.trans h10)
                  | ((go_at_call 9; (with_reducible refine (HIn.out L3 _ _ E10 (ho7.rd.ext ((g8.trans h9).trans h10))).mono ?_); rintro e w11 ⟨rfl, h11⟩); rw [MO.out]; have E11 := E10.trans h11)
                  | ((go_at_call 9; (with_reducible refine (HIa.out _ E11).mono ?_); rintro e w12 ⟨rfl, h12⟩); have E12 := E11.trans h12)
                  | ((go_at_call 9; (with_reducible refine (HIn.out L4 _ _ E12 (ho8.rd.ext (((h9.trans h10).trans h11).trans h12))).mono ?_); rintro e w13 ⟨rfl, h13⟩); rw [MN.out]; have E13 := E12.trans h13)
                  | ((go_at_call 8; (with_reducible refine (HLv.out _ E13).mono ?_); rintro e w14 ⟨rfl, h14⟩)))
                go_ret
                exact ⟨rfl, E13.trans h14⟩
end Go.Proofs.YtdeppnamhdbbhaaDoor
namespace Go.Proofs.YtdeppnamhdbbhaaDoor
open Go.RowKit Go.Eg

set_option maxHeartbeats 2000000 in
theorem shiftStep_calls (b1 b2 k : Nat) (x : Int) (q : Nat → Bool) (w : World) (hb : b1 ≠ b2) (hx : w.cell? ⟨b1, 0, none⟩ = some (.int .i64 x)) (hA : Arr w b2 q) (hk : k < 512) (hx1 : -512 < x) (hx2 : x < 512) :
    Calls Tryd.prog 28 #[.int .i64 (k : Int), .pointer (some ⟨b1, 0, none⟩), .pointer (some ⟨b2, 0, none⟩)] w fun e w' => e = .returned (.bool true) ∧ Arr w' b2 (addSet q ((k : Int) + x)) ∧ w'.cell? ⟨b1, 0, none⟩ = some (.int .i64 x) ∧ (∀ b' q', b' ≠ b2 → Arr w b' q' → Arr w' b' q') ∧ (∀ w0, Ext w0 w → w0.heap.size ≤ b2 → Ext w0 w') ∧ w.heap.size ≤ w'.heap.size := by
  by_cases hin : inR ((k : Int) + x) = true
  · have HIN := Lib.hid hin
    simp only [inR, Bool.and_eq_true, decide_eq_true_eq] at hin
    obtain ⟨h0, h1⟩ := hin
    obtain ⟨y, hy⟩ : ∃ y, y = (k : Int) + x := ⟨_, rfl⟩
    rw [← hy] at h0 h1 HIN ⊢
    have hy' : (k : Int) + x = y := hy.symm
    obtain ⟨hw, hf⟩ := hA (y / 64).toNat (by omega)
    have hq0 : 0 ≤ y / 64 := by omega
    have hq1 : y / 64 < 8 := by omega
    have hq2 : 0 ≤ y % 64 := by omega
    have hq3 : y % 64 < 64 := by omega
    have hd0 : IntKind.i64.wrap y = y := IntWalk.i64_in _ (by omega)
    have hd1 : y.tdiv 64 = y / 64 := Int.tdiv_eq_ediv_of_nonneg h0
    have hd2 : y.tmod 64 = y % 64 := Int.tmod_eq_emod_of_nonneg h0
    have hd3 : IntKind.i64.wrap (y / 64) = y / 64 := IntWalk.i64_in _ (by omega)
    have hd4 : IntKind.i64.wrap (y % 64) = y % 64 := IntWalk.i64_in _ (by omega)
    have hd6 := shl_one (y % 64) hq2 hq3
    have hd8 : IntKind.u64.wrap (2 ^ (y % 64).toNat) = 2 ^ (y % 64).toNat := by rw [Nat.min_eq_left (by omega)] at hd6; exact hd6
    have hd7 := add_word q y h0
    have HA' : Hid (Arr (w.setCell ⟨b2, (y / 64).toNat, none⟩ (.int .u64 (wd (addSet q y) (y / 64).toNat : Nat))) b2 (addSet q y)) := hA.put (by omega) rfl (fun k _ hk => add_other _ _ h0 k hk)
    have HC' : Hid ((w.setCell ⟨b2, (y / 64).toNat, none⟩ (.int .u64 (wd (addSet q y) (y / 64).toNat : Nat))).cell? ⟨b1, 0, none⟩ = some (.int .i64 x)) := by
      show _ = _; rw [World.cell?_setCell_other w _ _ _ (fun e => hb (congrArg Addr.block e).symm)]; exact hx
    have HO' : Hid (∀ b' q', b' ≠ b2 → Arr w b' q' → Arr (w.setCell ⟨b2, (y / 64).toNat, none⟩ (.int .u64 (wd (addSet q y) (y / 64).toNat : Nat))) b' q') := fun b' q' h1 h2 => h2.other h1
    clear hA hy
    go_enter Tryd.func28, Tryd.ntmps28
    go_wp2_with ((try rw [hy']); (go_at_call 26; (with_reducible refine (fits_calls _ _).mono ?_); rintro e w' ⟨rfl, hw⟩; obtain rfl := hw.symm); rw [HIN.out])
    go_region_with (fail)
    all_goals
      go_wp2_with fail
      go_ret
      refine ⟨rfl, HA'.out.drew, HC'.out, fun b' q' h1 h2 => (HO'.out b' q' h1 h2).drew, fun w0 he hl => (he.set hl _).drew, by simp⟩
  · have HIN : Hid (inR ((k : Int) + x) = false) := by show _ = _; simpa using hin
    clear hin
    go_enter Tryd.func28, Tryd.ntmps28
    go_wp2_with ((go_at_call 26; (with_reducible refine (fits_calls _ _).mono ?_); rintro e w' ⟨rfl, hw⟩; obtain rfl := hw.symm); rw [HIN.out])
    go_ret
    exact ⟨rfl, hA.congr (fun j hj => add_out HIN.out j hj), hx, fun _ _ _ h => h, fun _ h _ => h, Nat.le_refl _⟩
set_option maxHeartbeats 2000000 in
set_option maxRecDepth 100000 in
theorem Shift_calls (p : Nat → Bool) (x : Int) (w : World) (hT : Tab w) : Calls Tryd.prog 15 #[Value.agg #[.int .u64 (wd (p) 0 : Nat), .int .u64 (wd (p) 1 : Nat), .int .u64 (wd (p) 2 : Nat), .int .u64 (wd (p) 3 : Nat), .int .u64 (wd (p) 4 : Nat), .int .u64 (wd (p) 5 : Nat), .int .u64 (wd (p) 6 : Nat), .int .u64 (wd (p) 7 : Nat)], .int .i64 x] w fun e w' => e = .returned (Value.agg #[.int .u64 (wd (shiftS p x) 0 : Nat), .int .u64 (wd (shiftS p x) 1 : Nat), .int .u64 (wd (shiftS p x) 2 : Nat), .int .u64 (wd (shiftS p x) 3 : Nat), .int .u64 (wd (shiftS p x) 4 : Nat), .int .u64 (wd (shiftS p x) 5 : Nat), .int .u64 (wd (shiftS p x) 6 : Nat), .int .u64 (wd (shiftS p x) 7 : Nat)]) ∧ Ext w w' := by
  by_cases hx : shOk x = true
  · have HR : Hid (shiftS p x = shS p x 512) := if_pos hx
    simp only [shOk, Bool.and_eq_true, decide_eq_true_eq] at hx
    obtain ⟨hx1, hx2⟩ := hx
    obtain ⟨I, hI⟩ : ∃ I : Nat → World → Prop, I = fun i w' => Arr w' (w.heap.size + 1 + 1 + 1) (shS p x i) ∧ w'.cell? ⟨w.heap.size + 1, 0, none⟩ = some (.int .i64 x) ∧ Arr w' (w.heap.size + 1 + 1) (fun _ => false) ∧ Ext w w' ∧ w.heap.size + 1 + 1 + 1 < w'.heap.size := ⟨_, rfl⟩
    have HE := Lib.hid (each_shift p ⟨w.heap.size + 1, 0, none⟩ ⟨w.heap.size + 1 + 1 + 1, 0, none⟩ I (fun i w' h => by rw [hI] at h; exact hT.ext h.2.2.2.1)
      (fun i w' hp h => by rw [hI] at h ⊢; obtain ⟨k1, k2, k3, k4, k5⟩ := h; exact ⟨by rw [sh_skip hp]; exact k1, k2, k3, k4, k5⟩)
      (fun i w' hi hp h => by
        rw [hI] at h
        obtain ⟨k1, k2, k3, k4, k5⟩ := h
        refine (shiftStep_calls _ _ i x _ w' (by omega) k2 k1 hi hx1 hx2).mono ?_
        rintro e w2 ⟨rfl, l1, l2, l3, l4, l5⟩
        rw [hI]
        exact ⟨rfl, by rw [sh_add hp]; exact l1, l2, l3 _ _ (by omega) k3, l4 _ k4 (by omega), by omega⟩))
    have H0 : Hid (∀ o, I 0 (((((w.alloc (.cells #[Value.int .u64 (wd (p) 0 : Nat), .int .u64 (wd (p) 1 : Nat), .int .u64 (wd (p) 2 : Nat), .int .u64 (wd (p) 3 : Nat), .int .u64 (wd (p) 4 : Nat), .int .u64 (wd (p) 5 : Nat), .int .u64 (wd (p) 6 : Nat), .int .u64 (wd (p) 7 : Nat)] 31)).alloc (.cells #[.int .i64 x] 3)).alloc (.cells #[Value.int .u64 0, .int .u64 0, .int .u64 0, .int .u64 0, .int .u64 0, .int .u64 0, .int .u64 0, .int .u64 0] 31)).alloc (.cells #[Value.int .u64 0, .int .u64 0, .int .u64 0, .int .u64 0, .int .u64 0, .int .u64 0, .int .u64 0, .int .u64 0] 31)).alloc o)) := by
      show ∀ o, I 0 _
      intro o
      rw [hI]
      refine ⟨by rw [sh_zero]; exact (Arr.zero (by simp)).old (by simp), ?_, ((Arr.zero (by simp)).old (by simp)).old (by simp <;> omega), by (repeat (first | assumption | exact Ext.refl _ | apply Ext.alloc | apply Ext.drew | apply Ext.drewN | refine Ext.trans ?_ (by assumption))), by simp⟩
      refine (((((Ext.refl _).alloc _).alloc _).alloc _).cell _ _ (by simp)).trans (by simp)
    clear hT
    go_enter Tryd.func15, Tryd.ntmps15
    go_wp2_with (first | ((go_at_call 27; (with_reducible refine (HE.out _ (H0.out _)).mono ?_); rintro e w1 ⟨rfl, h1⟩); rw [hI] at h1; obtain ⟨k1, k2, k3, k4, k5⟩ := h1; have K1 := Lib.hid k1; have K3 := Lib.hid k3; clear k1 k3; have H__ := (K1).out; obtain ⟨ce0, fe0⟩ := H__ 0 (by omega); obtain ⟨ce1, fe1⟩ := H__ 1 (by omega); obtain ⟨ce2, fe2⟩ := H__ 2 (by omega); obtain ⟨ce3, fe3⟩ := H__ 3 (by omega); obtain ⟨ce4, fe4⟩ := H__ 4 (by omega); obtain ⟨ce5, fe5⟩ := H__ 5 (by omega); obtain ⟨ce6, fe6⟩ := H__ 6 (by omega); obtain ⟨ce7, fe7⟩ := H__ 7 (by omega); clear H__; have H__ := (K3).out; obtain ⟨de0, ge0⟩ := H__ 0 (by omega); obtain ⟨de1, ge1⟩ := H__ 1 (by omega); obtain ⟨de2, ge2⟩ := H__ 2 (by omega); obtain ⟨de3, ge3⟩ := H__ 3 (by omega); obtain ⟨de4, ge4⟩ := H__ 4 (by omega); obtain ⟨de5, ge5⟩ := H__ 5 (by omega); obtain ⟨de6, ge6⟩ := H__ 6 (by omega); obtain ⟨de7, ge7⟩ := H__ 7 (by omega); clear H__))
    have HEX : Hid (Ext w ((((((((w1.setCell ⟨w.heap.size + 1 + 1, 0, none⟩ (.int .u64 (wd (shS p x 512) 0 : Nat))).setCell ⟨w.heap.size + 1 + 1, 1, none⟩ (.int .u64 (wd (shS p x 512) 1 : Nat))).setCell ⟨w.heap.size + 1 + 1, 2, none⟩ (.int .u64 (wd (shS p x 512) 2 : Nat))).setCell ⟨w.heap.size + 1 + 1, 3, none⟩ (.int .u64 (wd (shS p x 512) 3 : Nat))).setCell ⟨w.heap.size + 1 + 1, 4, none⟩ (.int .u64 (wd (shS p x 512) 4 : Nat))).setCell ⟨w.heap.size + 1 + 1, 5, none⟩ (.int .u64 (wd (shS p x 512) 5 : Nat))).setCell ⟨w.heap.size + 1 + 1, 6, none⟩ (.int .u64 (wd (shS p x 512) 6 : Nat))).setCell ⟨w.heap.size + 1 + 1, 7, none⟩ (.int .u64 (wd (shS p x 512) 7 : Nat)))) := ((((((((k4.set (by first | exact Nat.le_refl _ | exact Nat.le_succ _ | exact Nat.le_add_right _ _ | exact Nat.le_trans (Nat.le_succ _) (Nat.le_succ _) | omega) _).set (by first | exact Nat.le_refl _ | exact Nat.le_succ _ | exact Nat.le_add_right _ _ | exact Nat.le_trans (Nat.le_succ _) (Nat.le_succ _) | omega) _).set (by first | exact Nat.le_refl _ | exact Nat.le_succ _ | exact Nat.le_add_right _ _ | exact Nat.le_trans (Nat.le_succ _) (Nat.le_succ _) | omega) _).set (by first | exact Nat.le_refl _ | exact Nat.le_succ _ | exact Nat.le_add_right _ _ | exact Nat.le_trans (Nat.le_succ _) (Nat.le_succ _) | omega) _).set (by first | exact Nat.le_refl _ | exact Nat.le_succ _ | exact Nat.le_add_right _ _ | exact Nat.le_trans (Nat.le_succ _) (Nat.le_succ _) | omega) _).set (by first | exact Nat.le_refl _ | exact Nat.le_succ _ | exact Nat.le_add_right _ _ | exact Nat.le_trans (Nat.le_succ _) (Nat.le_succ _) | omega) _).set (by first | exact Nat.le_refl _ | exact Nat.le_succ _ | exact Nat.le_add_right _ _ | exact Nat.le_trans (Nat.le_succ _) (Nat.le_succ _) | omega) _).set (by first | exact Nat.le_refl _ | exact Nat.le_succ _ | exact Nat.le_add_right _ _ | exact Nat.le_trans (Nat.le_succ _) (Nat.le_succ _) | omega) _)
    exact bodyPost_ret (v := Value.agg #[.int .u64 (wd (shS p x 512) 0 : Nat), .int .u64 (wd (shS p x 512) 1 : Nat), .int .u64 (wd (shS p x 512) 2 : Nat), .int .u64 (wd (shS p x 512) 3 : Nat), .int .u64 (wd (shS p x 512) 4 : Nat), .int .u64 (wd (shS p x 512) 5 : Nat), .int .u64 (wd (shS p x 512) 6 : Nat), .int .u64 (wd (shS p x 512) 7 : Nat)]) (by simp [results, Tryd.results15, go_sem, *]) rfl ⟨by rw [HR.out], HEX⟩
  · have HR : Hid (shiftS p x = fun _ => false) := if_neg hx
    have hx3 : x ≤ -512 ∨ (decide (x ≤ -512) = false ∧ 512 ≤ x) := by simp [shOk] at hx ⊢; omega
    clear hx hT
    rcases hx3 with h | ⟨h0, h⟩
    all_goals
      go_enter Tryd.func15, Tryd.ntmps15
      go_wp2_with fail
      exact bodyPost_ret (v := Value.agg #[.int .u64 0, .int .u64 0, .int .u64 0, .int .u64 0, .int .u64 0, .int .u64 0, .int .u64 0, .int .u64 0]) (by simp [results, Tryd.results15, go_sem, *]) rfl ⟨by rw [HR.out]; simp [wd_none], by (repeat (first | assumption | exact Ext.refl _ | apply Ext.alloc | apply Ext.drew | apply Ext.drewN | refine Ext.set ?_ (by first | exact Nat.le_refl _ | assumption | exact Nat.le_succ _ | exact Nat.le_add_right _ _ | exact Nat.le_trans (Nat.le_succ _) (Nat.le_succ _) | omega) _ | refine Ext.trans ?_ (by assumption)))⟩
end Go.Proofs.YtdeppnamhdbbhaaDoor
namespace Go.Proofs.YtdeppnamhdbbhaaDoor
open Go.RowKit Go.Eg

theorem bt_app (u s : ByteArray) (m : Nat) : bt (u ++ s) (m + u.size) = bt s m := by
  have hd : (u ++ s).data.toList = u.data.toList ++ s.data.toList := by simp only [ByteArray.data_append, Array.toList_append]
  have hu : u.data.toList.length = u.size := Array.length_toList
  unfold bt
  rw [hd, List.getD_eq_getElem?_getD, List.getD_eq_getElem?_getD, List.getElem?_append_right (by omega), hu, Nat.add_sub_cancel]
theorem moved_set (x : T) (u s : ByteArray) (h : (u ++ s).size < 512) : shiftS (rowB (bt s) s.size x 0) (u.size : Int) = rowB (bt (u ++ s)) (u ++ s).size x u.size := by
  have hz : (u ++ s).size = s.size + u.size := by rw [ByteArray.size_append, Nat.add_comm]
  have hok : shOk (u.size : Int) = true := by simp [shOk]; omega
  funext m
  rw [shiftS, if_pos hok, shS]
  by_cases h1 : u.size ≤ m
  · have e1 : decide (0 ≤ (m : Int) - (u.size : Int)) = true := decide_eq_true (by omega)
    obtain ⟨k, rfl⟩ : ∃ k, m = k + u.size := ⟨m - u.size, by omega⟩
    have e2 : ((((k + u.size : Nat) : Int) - (u.size : Int))).toNat = k := by omega
    have hr := row_moved (c := bt s) (n := s.size) (c' := bt (u ++ s)) (d := u.size) (n' := (u ++ s).size) x 0 k hz (fun m _ => (bt_app u s m).symm)
    rw [e1, e2, hr, Nat.zero_add, Bool.true_and]
    cases hb : rowB (bt (u ++ s)) (u ++ s).size x u.size (k + u.size)
    · simp
    · have := rowB_iff.1 hb
      rw [decide_eq_true (by omega)]; rfl
  · have e1 : decide (0 ≤ (m : Int) - (u.size : Int)) = false := decide_eq_false (by omega)
    rw [e1]
    cases hb : rowB (bt (u ++ s)) (u ++ s).size x u.size m
    · rfl
    · have := rowB_iff.1 hb; omega
theorem word_tail {u s : ByteArray} (h : wordE (u ++ s) = 0) : wordE s = 0 := by
  have hs := word_size h
  have hz : (u ++ s).size = u.size + s.size := by rw [ByteArray.size_append]
  rw [word_good (fun m hm => by rw [← bt_app u s m]; exact word_all h _ (by omega)), if_neg (by omega)]
theorem nil_mem {x : T} (hw : x.wf) (hl : x.flat.length ≤ 4000) (c : Nat → Int) : memR x.flat noS = x.says c 0 0 := by
  rw [memR_flat hw hl (by decide)]
  exact mem_head c (bt noS) x 0 (fun m hm => by omega)

set_option maxHeartbeats 16000000 in
set_option maxRecDepth 100000 in
theorem lawMoved_calls (t : List Nd) (u s : ByteArray) (w : World) (hT : Tab w) (va : Value) (hra : Rd tyNd w t va) (hla : t.length * 16 ≤ 140737488351232) (hu : u.size ≤ 140737488351232) (hs : s.size ≤ 140737488351232) :
    Calls Tryd.prog 5 #[va, .string u, .string s] w fun e w' => e = .returned (.bool true) ∧ Ext w w' := by
  obtain ⟨A1, c1, rfl, hl1, hm1⟩ := hra.shape
  have hz : (u ++ s).size = u.size + s.size := by rw [ByteArray.size_append]
  have HLv := Lib.hid (fun w' (hE : Ext w w') => live6_calls w' (hT.ext hE))
  have q1 : u.size + s.size ≤ 9223372036854775807 := by omega
  have q2 : ¬ (9223372036854775807 < u.size + s.size) := by omega
  have q3 : ¬ (9223372036854775807 < (u.size : Int) + (s.size : Int)) := by omega
  have HG := Lib.hid (good6_calls t _ (u ++ s) w hra (by omega))
  cases hg : goodR t (u ++ s) with
  | false =>
    rw [hg] at HG
    clear hg hT hra
    go_enter Tryd.func5, Tryd.ntmps5
    go_wp2_with (first
      | ((go_at_call 7; (with_reducible refine (HG.out).mono ?_); rintro e w1 ⟨rfl, h1⟩))
      | ((go_at_call 8; (with_reducible refine (HLv.out _ h1).mono ?_); rintro e w2 ⟨rfl, h2⟩)))
    go_ret
    exact ⟨rfl, h1.trans h2⟩
  | true =>
    obtain ⟨x, hxw, rfl, hxl, hse, hs5⟩ := good_of hg
    rw [hg] at HG
    have hx4 : x.flat.length ≤ 4000 := by omega
    have hw2 := word_tail hse
    have he0 : errW x.flat = 0 := errW_flat hxw hx4
    have htr := tr_flat hxw
    have HE1 := Lib.hid (fun w' (hE : Ext w w') => Ends_calls x.flat _ s 0 w' (hra.ext hE) hs (hT.ext hE))
    have e1 : endsE x.flat s 0 = 0 := by rw [endsE, if_neg (by omega), if_neg (by omega), if_pos ⟨by omega, by omega⟩]
    have HE2 := Lib.hid (fun w' (hE : Ext w w') => Ends_calls x.flat _ (u ++ s) (u.size : Int) w' (hra.ext hE) (by omega) (hT.ext hE))
    have e2 : endsE x.flat (u ++ s) (u.size : Int) = 0 := by rw [endsE, if_neg (by omega), if_neg (by omega), if_pos ⟨by omega, by omega⟩]
    have s1 : endsS x.flat s 0 = rowB (bt s) s.size x 0 := by rw [endsS, if_pos e1, htr]; rfl
    have s2 : endsS x.flat (u ++ s) (u.size : Int) = rowB (bt (u ++ s)) (u ++ s).size x u.size := by rw [endsS, if_pos e2, htr, Int.toNat_natCast]
    rw [e1, s1] at HE1
    rw [e2, s2] at HE2
    have HNu := Lib.hid (fun w' (hE : Ext w w') => Nullable_calls x.flat _ w' (hra.ext hE) (hT.ext hE))
    rw [he0, nil_mem hxw hx4 (bt s)] at HNu
    have HSh := Lib.hid (fun w' (hE : Ext w w') => Shift_calls (rowB (bt s) s.size x 0) (u.size : Int) w' (hT.ext hE))
    rw [moved_set x u s hs5] at HSh
    have HIs := Lib.hid (fun w' (hE : Ext w w') => in6_calls x.flat _ s w' (hra.ext hE) hs (hT.ext hE))
    have HI0 := Lib.hid (fun w' (hE : Ext w w') => in6_calls x.flat _ noS w' (hra.ext hE) (by decide) (hT.ext hE))
    rw [memR_flat hxw hx4 hw2] at HIs
    rw [nil_mem hxw hx4 (bt s)] at HI0
    have HHs := Lib.hid (Has_calls (rowB (bt s) s.size x 0) (s.size : Int))
    have HH0 := Lib.hid (Has_calls (rowB (bt s) s.size x 0) 0)
    have i1 : inSet (rowB (bt s) s.size x 0) (s.size : Int) = memB (bt s) s.size x := by
      have := mem_row (bt s) s.size x
      unfold inSet; rw [Int.toNat_natCast, this, decide_eq_true (by omega), decide_eq_true (by omega)]; rfl
    have i2 : inSet (rowB (bt s) s.size x 0) 0 = x.says (bt s) 0 0 := by
      unfold inSet; rw [show (0 : Int).toNat = 0 from rfl, rowB]; simp
    rw [i1] at HHs
    rw [i2] at HH0
    have heq := eq_set
    unfold noS at HI0
    clear e1 e2 s1 s2 i1 i2 hg hT hra hx4 he0 htr hw2
    generalize rowB (bt s) s.size x 0 = A at *
    generalize rowB (bt (u ++ s)) (u ++ s).size x u.size = M at *
    generalize memB (bt s) s.size x = m at *
    generalize x.says (bt s) 0 0 = z at *
    cases m <;> cases z
    all_goals
      go_enter Tryd.func5, Tryd.ntmps5
      go_wp2_with (first
        | ((go_at_call 7; (with_reducible refine (HG.out).mono ?_); rintro e w1 ⟨rfl, h1⟩))
        | ((go_at_call 11; (with_reducible refine (HE1.out _ h1).mono ?_); rintro e w2 ⟨rfl, h2⟩); have E2 := (h1.trans h2).alloc (.cells #[Value.int .u64 (wd (A) 0 : Nat), .int .u64 (wd (A) 1 : Nat), .int .u64 (wd (A) 2 : Nat), .int .u64 (wd (A) 3 : Nat), .int .u64 (wd (A) 4 : Nat), .int .u64 (wd (A) 5 : Nat), .int .u64 (wd (A) 6 : Nat), .int .u64 (wd (A) 7 : Nat)] 31))
        | ((go_at_call 11; (with_reducible refine (HE2.out _ E2).mono ?_); rintro e w3 ⟨rfl, h3⟩); have HA3 := Lib.hid (Arr.ext (Arr.made A rfl) h3 (by simp)); have l3 : w2.heap.size < w3.heap.size := (Nat.lt_of_lt_of_le (by simp) h3.le); have E3 := (E2.trans h3).alloc (.cells #[Value.int .u64 (wd (M) 0 : Nat), .int .u64 (wd (M) 1 : Nat), .int .u64 (wd (M) 2 : Nat), .int .u64 (wd (M) 3 : Nat), .int .u64 (wd (M) 4 : Nat), .int .u64 (wd (M) 5 : Nat), .int .u64 (wd (M) 6 : Nat), .int .u64 (wd (M) 7 : Nat)] 31))
        | ((go_at_call 12; (with_reducible refine (HNu.out _ E3).mono ?_); rintro e w4 ⟨rfl, h4⟩); have E4 := E3.trans h4; have HA4 := Lib.hid (HA3.out.ext (((Ext.refl _).alloc _).trans h4) l3); have HB4 := Lib.hid (Arr.ext (Arr.made M rfl) h4 (by simp)); have k4 : w3.heap.size < w4.heap.size := (Nat.lt_of_lt_of_le (by simp) h4.le); have l4 := Nat.lt_trans l3 k4; have H__ := (HA4).out; obtain ⟨ce0, fe0⟩ := H__ 0 (by omega); obtain ⟨ce1, fe1⟩ := H__ 1 (by omega); obtain ⟨ce2, fe2⟩ := H__ 2 (by omega); obtain ⟨ce3, fe3⟩ := H__ 3 (by omega); obtain ⟨ce4, fe4⟩ := H__ 4 (by omega); obtain ⟨ce5, fe5⟩ := H__ 5 (by omega); obtain ⟨ce6, fe6⟩ := H__ 6 (by omega); obtain ⟨ce7, fe7⟩ := H__ 7 (by omega); clear H__)
        | ((go_at_call 13; (with_reducible refine (num6_calls _ _).mono ?_); rintro e w' ⟨rfl, hw⟩; obtain rfl := hw.symm))
        | ((go_at_call 14; (with_reducible refine (HHs.out _).mono ?_); rintro e w5 ⟨rfl, h5⟩); have E5 := E4.trans h5; have HA5 := Lib.hid (HA4.out.ext h5 l4); have HB5 := Lib.hid (HB4.out.ext h5 k4); have l5 := Nat.lt_of_lt_of_le l4 h5.le; have k5 := Nat.lt_of_lt_of_le k4 h5.le)
        | ((go_at_call 9; (with_reducible refine (HIs.out _ E5).mono ?_); rintro e w6 ⟨rfl, h6⟩); have E6 := E5.trans h6; have HA6 := Lib.hid (HA5.out.ext h6 l5); have HB6 := Lib.hid (HB5.out.ext h6 k5); have l6 := Nat.lt_of_lt_of_le l5 h6.le; have k6 := Nat.lt_of_lt_of_le k5 h6.le; have H__ := (HA6).out; obtain ⟨ce0, fe0⟩ := H__ 0 (by omega); obtain ⟨ce1, fe1⟩ := H__ 1 (by omega); obtain ⟨ce2, fe2⟩ := H__ 2 (by omega); obtain ⟨ce3, fe3⟩ := H__ 3 (by omega); obtain ⟨ce4, fe4⟩ := H__ 4 (by omega); obtain ⟨ce5, fe5⟩ := H__ 5 (by omega); obtain ⟨ce6, fe6⟩ := H__ 6 (by omega); obtain ⟨ce7, fe7⟩ := H__ 7 (by omega); clear H__)
        | ((go_at_call 14; (with_reducible refine (HH0.out _).mono ?_); rintro e w7 ⟨rfl, h7⟩); have E7 := E6.trans h7; have HA7 := Lib.hid (HA6.out.ext h7 l6); have HB7 := Lib.hid (HB6.out.ext h7 k6); have l7 := Nat.lt_of_lt_of_le l6 h7.le; have k7 := Nat.lt_of_lt_of_le k6 h7.le)
        | ((go_at_call 9; (with_reducible refine (HI0.out _ E7).mono ?_); rintro e w8 ⟨rfl, h8⟩); have E8 := E7.trans h8; have HA8 := Lib.hid (HA7.out.ext h8 l7); have HB8 := Lib.hid (HB7.out.ext h8 k7); have l8 := Nat.lt_of_lt_of_le l7 h8.le; have k8 := Nat.lt_of_lt_of_le k7 h8.le; have H__ := (HA8).out; obtain ⟨ce0, fe0⟩ := H__ 0 (by omega); obtain ⟨ce1, fe1⟩ := H__ 1 (by omega); obtain ⟨ce2, fe2⟩ := H__ 2 (by omega); obtain ⟨ce3, fe3⟩ := H__ 3 (by omega); obtain ⟨ce4, fe4⟩ := H__ 4 (by omega); obtain ⟨ce5, fe5⟩ := H__ 5 (by omega); obtain ⟨ce6, fe6⟩ := H__ 6 (by omega); obtain ⟨ce7, fe7⟩ := H__ 7 (by omega); clear H__; have H__ := (HB8).out; obtain ⟨de0, ge0⟩ := H__ 0 (by omega); obtain ⟨de1, ge1⟩ := H__ 1 (by omega); obtain ⟨de2, ge2⟩ := H__ 2 (by omega); obtain ⟨de3, ge3⟩ := H__ 3 (by omega); obtain ⟨de4, ge4⟩ := H__ 4 (by omega); obtain ⟨de5, ge5⟩ := H__ 5 (by omega); obtain ⟨de6, ge6⟩ := H__ 6 (by omega); obtain ⟨de7, ge7⟩ := H__ 7 (by omega); clear H__))
      clear HA3 HA4 HB4 HA5 HB5 HA6 HB6 HA7 HB7 h1 h2 h3 h4 h5 h6 h7 h8 E2 E3 E4 E5 E6 E7
      have HSh8 := Lib.hid (fun w' (hE : Ext w8 w') => HSh.out w' (E8.trans hE))
      have HL8 := Lib.hid (fun w' (hE : Ext w8 w') => HLv.out w' (E8.trans hE))
      go_region_held3 (fun w' => (∀ b o, b < w8.heap.size → w'.cell? ⟨b, o, none⟩ = w8.cell? ⟨b, o, none⟩) ∧ Ext w8 w') (refine ⟨Ext.cells ?_, ?_⟩ <;> ((repeat (first | assumption | exact Ext.refl _ | apply Ext.alloc | apply Ext.drew | apply Ext.drewN | refine Ext.trans ?_ (by assumption))))) (first
        | ((go_at_call 15; (with_reducible refine (HSh8.out _ (by (repeat (first | assumption | exact Ext.refl _ | apply Ext.alloc | apply Ext.drew | apply Ext.drewN | refine Ext.trans ?_ (by assumption))))).mono ?_); rintro e w9 ⟨rfl, h9⟩); (try replace h9 := Ext.undrew h9))
        | ((go_at_call 8; (with_reducible refine (HL8.out _ (by (repeat (first | assumption | exact Ext.refl _ | apply Ext.alloc | apply Ext.drew | apply Ext.drewN | refine Ext.trans ?_ (by assumption))))).mono ?_); rintro e w10 ⟨rfl, h10⟩); (try replace h10 := Ext.undrew h10)))
      go_wp2_with fail
      go_ret
      exact ⟨rfl, by (repeat (first | assumption | exact Ext.refl _ | apply Ext.alloc | apply Ext.drew | apply Ext.drewN | refine Ext.trans ?_ (by assumption)))⟩
end Go.Proofs.YtdeppnamhdbbhaaDoor
namespace Go.Proofs.YtdeppnamhdbbhaaDoor.matchMoved
open Go.ChangeShapes Go.WideShapes Go.ChangeAt Go.RowKit Go.Eg
theorem own : ownKnob Tryd.prog.godebug = none := by kernel_rfl
theorem laidOut : laidOutB Tryd.prog = true := by kernel_rfl
set_option maxRecDepth 100000 in
theorem lifted (os : Os) (started : os.Started) (H : Type) (enc : TypeId × Value → H) :
    ReturnsInHanded {} Tryd.checked os 5 .any (fun w args => (Rows.matchMovedSpec.pre enc Tryd.prog Tryd.f5 [] false w args ∧ laidMetH Tryd.prog tabLaid w) ∧ sizedMet enc Tryd.prog Tryd.f5 (OpenSpec.ofChange Rows.matchMovedSpec) false w args) (Rows.matchMovedSpec.post enc Tryd.prog Tryd.f5 false true false false) := by
  refine returnsInHanded_of_change_and (C := Tryd.checked) (X := fun w _ => laidMetH Tryd.prog tabLaid w) (fun _ _ _ hh h => h.of_heap hh) own started (by kernel_rfl) Tryd.func5
    (ChangeSpec.witness_shaped (enc := enc) (C := Tryd.checked) (os := os) (X := fun w _ => laidMetH Tryd.prog tabLaid w) false (World.doorLaid Tryd.prog 400 os) #[.slice none 0 0, .string ByteArray.empty, .string ByteArray.empty] 8 rfl (World.shaped_of_RefB (by kernel_rfl) (by kernel_rfl)) (by kernel_rfl) (by kernel_rfl) (by kernel_rfl) (door_met os _)) ?_
  intro W base args ds gs before hval0 hW hcnd hsz0 hL _
  have hT := tab_of_laid hL
  have hsz : (DataW.weightsEach Tryd.prog (Tryd.f5.params.toList ++ Rows.matchMovedSpec.plain.varTypes Tryd.prog) (ds ++ gs)).all (· ≤ reachBytes) = true := hsz0
  have hval : ∀ (j : Nat) t v, Tryd.f5.params[j]? = some t → args[j]? = some v → Value.okWide Tryd.prog W .any base t v := hval0
  have hW' := hW
  obtain ⟨p, q, hA0, hV, rfl, hfz, hnd⟩ := hW
  have hA : DataW.TrodAll enc Tryd.prog W 0 (fun _ => true) true Tryd.f5.params.toList args.toList ds p := hA0
  rw [Tryd.params5] at hA hval hsz
  obtain ⟨v0, vs0, d0, ds0, p0, q0, hargs, rfl, rfl, h0, r0⟩ := trodAll_cons hA
  obtain ⟨v1, vs1, d1, ds1, p1, q1, rfl, rfl, rfl, h1, r1⟩ := trodAll_cons r0
  obtain ⟨v2, vs2, d2, ds2, p2, q2, rfl, rfl, rfl, h2, r2⟩ := trodAll_cons r1
  obtain ⟨rfl, rfl, rfl⟩ := trodAll_nil r2
  obtain rfl : args = #[v0, v1, v2] := by cases args; simp_all
  obtain ⟨rfl, rfl⟩ := trodVars_none hV
  obtain ⟨x0, e0, b0⟩ := arg_nodes (hval 0 _ v0 rfl rfl) h0 (fits_each hsz (j := 0) rfl rfl)
  obtain ⟨x1, rfl, b1⟩ := arg_str (hval 1 _ v1 rfl rfl) h1 (fits_each hsz (j := 1) rfl rfl)
  obtain ⟨x2, rfl, b2⟩ := arg_str (hval 2 _ v2 rfl rfl) h2 (fits_each hsz (j := 2) rfl rfl)
  have l0 := trod_low h0
  have l1 := trod_low h1
  have l2 := trod_low h2
  clear hA0 hval0 hsz0 hsz
  refine (lawMoved_calls x0 x1 x2 W hT _ e0 b0 b1 b2).mono fun e W' ⟨he, bel⟩ => ?_
  subst he
  replace bel : Below W.heap.size W W' := bel
  exact ⟨_, rfl, _, _, _, [], _, [], hW', trodAll_mk1 (shut_bool Tryd.underlying4 _), (trodAll_cons_mk (Below.trod laidOut (by kernel_rfl) (of_decide_eq_true (by kernel_rfl)) h0 bel l0) (trodAll_cons_mk (Below.trod laidOut (by kernel_rfl) (of_decide_eq_true (by kernel_rfl)) h1 bel l1) (trodAll_cons_mk (Below.trod laidOut (by kernel_rfl) (of_decide_eq_true (by kernel_rfl)) h2 bel l2) trodAll_mk0))), rfl, bel.frame _, fun h => by cases h⟩
theorem over : Rows.matchMovedRow.holds Tryd.pinned (OpenSpec.ofChange Rows.matchMovedSpec) :=
  OpenClaim.holds_of_wide 5 Tryd.f5 rfl rfl rfl rfl rfl rfl rfl ⟨rfl, rfl, rfl, rfl, rfl⟩ rfl rfl rfl rfl rfl (by kernel_rfl) Tryd.func5 (by kernel_rfl)
    (of_decide_eq_true (by kernel_rfl)) (by unfold Func.isWrapper; first | (rw [if_pos (by decide +kernel)]; kernel_rfl) | (rw [if_neg (by decide +kernel)]; exact ⟨rfl, rfl⟩))
    (fun os started H enc _ => lifted os started H enc)
theorem proved : Rows.MatchMovedSaid := over
theorem carded : Rows.MatchMovedCardSaid :=
  Claim7.holds_tied_plain_at .later [] [.data] true Rows.matchMovedCard.stood.harness false
    proved (fun _ h => by cases h) (by kernel_rfl) (fun _ h => by cases h) matchMoved_row_tie rfl ⟨rfl, rfl⟩ (by kernel_rfl) rfl
    (fun f fn hf hfn => by
      obtain rfl : f = 5 := Option.some.inj ((show Tryd.prog.funcNamed "eggbox/eggboxlaw06.MatchMoved" = some 5 by kernel_rfl).symm.trans hf) |>.symm
      obtain rfl : fn = Tryd.f5 := (Option.some.inj (Tryd.func5.symm.trans hfn)).symm
      exact ⟨by kernel_rfl, fun j t ht => by
        rw [Tryd.params5] at ht
        have hm : t ∈ [22, 9] := by simpa using Array.mem_of_getElem? ht
        have hall : ([22, 9].all fun u => !Tryd.prog.wantsStandIn u) = true := by kernel_rfl
        exact (show Tryd.prog.wantsStandIn t = false by simpa using List.all_eq_true.1 hall t hm)⟩)
    (by kernel_rfl)
end Go.Proofs.YtdeppnamhdbbhaaDoor.matchMoved
namespace Go.Proofs.YtdeppnamhdbbhaaDoor
/-- The card, for the claim. -/
theorem matchMoved_holds : Rows.MatchMovedCardSaid := matchMoved.carded
end Go.Proofs.YtdeppnamhdbbhaaDoor
