/- Walk of chapter 4's law SyntaxBlanks. Conditions: none beyond what the arguments are. -/
import Derived.Test.YtaijjnndnoicpaaLawSynB
import Derived.Deep.RegionWith
namespace Go.Eg
theorem bt_list (s : ByteArray) (i : Nat) : bt s i = ((s.data.toList.getD i 0).toNat : Int) := rfl
theorem blank_text (s : ByteArray) (a : Nat) (ha : a ≤ s.size) : bt (s.extract 0 a ++ ⟨#[32]⟩ ++ s.extract a s.size) = insB (bt s) a := by
  funext j
  have hs : s.data.toList.length = s.size := rfl
  have hd : (s.extract 0 a ++ ⟨#[32]⟩ ++ s.extract a s.size).data.toList = s.data.toList.take a ++ [32] ++ s.data.toList.drop a := by
    simp only [ByteArray.data_append, Array.toList_append, ByteArray.data_extract, Array.toList_extract, List.extract, Nat.sub_zero, List.drop_zero]
    rw [List.take_of_length_le (l := s.data.toList.drop a) (by rw [List.length_drop, hs]; exact Nat.le_refl _)]
  unfold insB
  rw [bt_list, hd]
  by_cases h1 : j < a
  · rw [if_pos h1, bt_list]
    congr 2
    rw [List.getD_eq_getElem?_getD, List.getD_eq_getElem?_getD, List.append_assoc, List.getElem?_append_left (by rw [List.length_take]; omega), List.getElem?_take_of_lt h1]
  · rw [if_neg h1]
    have hl : (s.data.toList.take a).length = a := by rw [List.length_take]; omega
    by_cases h2 : j = a
    · rw [if_pos h2, List.getD_eq_getElem?_getD, List.append_assoc, List.getElem?_append_right (by omega), hl, h2, Nat.sub_self]
      rfl
    · rw [if_neg h2, bt_list]
      congr 2
      rw [List.getD_eq_getElem?_getD, List.getD_eq_getElem?_getD, List.getElem?_append_right (by simp; omega), List.getElem?_drop]
      congr 2
      simp
      omega
end Go.Eg
namespace Go.Proofs.Ytaijjnndnoicpaa
open Go.RowKit Go.Eg

set_option maxHeartbeats 4000000 in
set_option maxRecDepth 100000 in
theorem SyntaxBlanks_calls (k : Int) (s : ByteArray) (at0 : Int) (w : World) (hk : IntIn .i64 k) (hs : s.size ≤ 140737488351232) (ha : IntIn .i64 at0) :
    Calls Try.prog 7 #[.int .i64 k, .string s, .int .i64 at0] w fun e w' => e = .returned (.bool true) ∧ Ext w w' := by
  by_cases hb : at0 < 0 ∨ (s.size : Int) < at0 ∨ (1000 : Int) ≤ s.size
  · rcases Classical.em (at0 < 0) with h0 | h0
    · go_enter Try.func7, Try.ntmps7
      go_wp2_with ((go_at_call 14; (with_reducible refine (live_calls _).mono ?_); rintro e w2 ⟨rfl, h2⟩))
      go_ret
      exact ⟨rfl, by (repeat (first | assumption | exact Ext.refl _ | apply Ext.alloc | apply Ext.drew | apply Ext.drewN | refine Ext.trans ?_ (by assumption)))⟩
    · rcases Classical.em ((s.size : Int) < at0) with h1 | h1
      · go_enter Try.func7, Try.ntmps7
        go_wp2_with ((go_at_call 14; (with_reducible refine (live_calls _).mono ?_); rintro e w2 ⟨rfl, h2⟩))
        go_ret
        exact ⟨rfl, by (repeat (first | assumption | exact Ext.refl _ | apply Ext.alloc | apply Ext.drew | apply Ext.drewN | refine Ext.trans ?_ (by assumption)))⟩
      · have h3 : (1000 : Int) ≤ s.size := by omega
        have h3' : decide ((1000 : Int) ≤ s.size) = true := decide_eq_true h3
        go_enter Try.func7, Try.ntmps7
        go_wp2_with ((go_at_call 14; (with_reducible refine (live_calls _).mono ?_); rintro e w2 ⟨rfl, h2⟩))
        go_ret
        exact ⟨rfl, by (repeat (first | assumption | exact Ext.refl _ | apply Ext.alloc | apply Ext.drew | apply Ext.drewN | refine Ext.trans ?_ (by assumption)))⟩
  · obtain ⟨a, rfl⟩ := Int.eq_ofNat_of_zero_le (show 0 ≤ at0 by omega)
    have han : a ≤ s.size := by omega
    have hn : s.size < 1000 := by omega
    have hz : (s.extract 0 a ++ ⟨#[32]⟩ ++ s.extract a s.size).size = s.size + 1 := by
      simp only [ByteArray.size_append, ByteArray.size_extract]
      have : (⟨#[32]⟩ : ByteArray).size = 1 := rfl
      omega
    obtain ⟨P, hP⟩ : ∃ P, P = parseP k (bt s) s.size := ⟨_, rfl⟩
    obtain ⟨Q, hQ⟩ : ∃ Q, Q = parseP k (bt (s.extract 0 a ++ ⟨#[32]⟩ ++ s.extract a s.size)) (s.extract 0 a ++ ⟨#[32]⟩ ++ s.extract a s.size).size := ⟨_, rfl⟩
    have HP := Lib.hid (parse_at k s P hP)
    have HQ := Lib.hid (parse_at k _ Q hQ)
    have hpl := parse_small k (bt s) s.size
    obtain ⟨g1, g2, g3⟩ := parse_blank (c := bt s) (n := s.size) (a := a) k han hn
    rw [hz, blank_text s a han] at hQ
    rw [← hP] at g1 g2 g3 hpl
    rw [← hQ] at g1 g2 g3
    clear hP hQ hz
    obtain ⟨e1, p1, t1⟩ := P
    obtain ⟨e2, p2, t2⟩ := Q
    dsimp only at *
    subst g1; subst g2
    have q1 : (s.extract 0 a).size + (⟨#[32]⟩ : ByteArray).size ≤ 9223372036854775807 := by
      have : (⟨#[32]⟩ : ByteArray).size = 1 := rfl
      rw [ByteArray.size_extract]; omega
    have q2 : (s.extract 0 a).size + (⟨#[32]⟩ : ByteArray).size + (s.extract a s.size).size ≤ 9223372036854775807 := by
      have : (⟨#[32]⟩ : ByteArray).size = 1 := rfl
      rw [ByteArray.size_extract, ByteArray.size_extract]; omega
    have n1 : ¬ (a : Int) < 0 := by omega
    have n2 : ¬ (s.size : Int) < a := by omega
    have n3 : ¬ (1000 : Int) ≤ s.size := by omega
    have n3' : decide ((1000 : Int) ≤ s.size) = false := decide_eq_false n3
    clear hb
    have g3' : (((p2 : Int) == p1) = true) ∨ (((p2 : Int) == p1) = false ∧ ((p2 : Int) == (p1 : Int) + 1) = true) := by
      rcases g3 with h | h
      · exact .inl (by simp; omega)
      · exact .inr ⟨by simp; omega, by simp; omega⟩
    clear g3
    have q3 : IntKind.i64.wrap ((p1 : Int) + 1) = (p1 : Int) + 1 := IntWalk.i64_in _ (by omega)
    rcases g3' with g | ⟨g, g'⟩
    · go_enter Try.func7, Try.ntmps7
      go_wp2_with ((go_at_call 9; (with_reducible refine (HP.out _).mono ?_); rintro e w1 ⟨v1, rfl, ho1, h1⟩))
      go_region_with ((go_at_call 9; (with_reducible refine (HQ.out _).mono ?_); rintro e w3 ⟨v3, rfl, ho3, h3⟩); (try replace h3 := Ext.undrew h3))
      go_wp2_with (first
        | ((go_at_call 11; (with_reducible refine (sameNodes_calls t2 t2 _ _ _ (ho1.rd.ext h3) ho3.rd).mono ?_); rintro e w4 ⟨rfl, h4⟩); rw [decide_eq_true rfl])
        | ((go_at_call 14; (with_reducible refine (live_calls _).mono ?_); rintro e w2 ⟨rfl, h2⟩)))
      go_ret
      exact ⟨rfl, by (repeat (first | assumption | exact Ext.refl _ | apply Ext.alloc | apply Ext.drew | apply Ext.drewN | refine Ext.trans ?_ (by assumption)))⟩

    · go_enter Try.func7, Try.ntmps7
      go_wp2_with ((go_at_call 9; (with_reducible refine (HP.out _).mono ?_); rintro e w1 ⟨v1, rfl, ho1, h1⟩))
      go_region_with ((go_at_call 9; (with_reducible refine (HQ.out _).mono ?_); rintro e w3 ⟨v3, rfl, ho3, h3⟩); (try replace h3 := Ext.undrew h3))
      go_wp2_with (first
        | ((go_at_call 11; (with_reducible refine (sameNodes_calls t2 t2 _ _ _ (ho1.rd.ext h3) ho3.rd).mono ?_); rintro e w4 ⟨rfl, h4⟩); rw [decide_eq_true rfl])
        | ((go_at_call 14; (with_reducible refine (live_calls _).mono ?_); rintro e w2 ⟨rfl, h2⟩)))
      go_ret
      exact ⟨rfl, by (repeat (first | assumption | exact Ext.refl _ | apply Ext.alloc | apply Ext.drew | apply Ext.drewN | refine Ext.trans ?_ (by assumption)))⟩
end Go.Proofs.Ytaijjnndnoicpaa
