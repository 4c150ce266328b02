/- Plain mathematics: what is printed is read as it was. Conditions: none. -/
import Derived.Test.YtaijjnndnoicpaaSynQ
namespace Go.Eg

section
variable {k : Int} {c : Nat → Int} {n : Nat}
theorem wrap_first {x : T} (hk : 1 ≤ k) (hw : x.wf) (hl : x.lets k) (L : Nat) : ∃ ch l, wrapP x.bd x.pr L = ch :: l ∧ ch ≠ 32 ∧ (4 ≤ L → begs k ch = true) ∧ (5 ≤ L → ch ≠ 33) := by
  obtain ⟨ch, l, h1, h2, h3, h4⟩ := first hk hw hl
  unfold wrapP
  by_cases hb : x.bd < L
  · rw [if_pos hb]; exact ⟨40, _, rfl, by decide, fun _ => by simp [begs], fun _ => by decide⟩
  · rw [if_neg hb]; exact ⟨ch, l, h1, h2, fun h => h3 (by omega), fun h => h4 (by omega)⟩
theorem print_read (hk : 1 ≤ k) (h8 : k ≤ 8) : ∀ x : T, x.wf → x.lets k → AllR k c n x := by
  intro x
  induction x with
  | leaf nd =>
    intro hw hl i f hs hn hf
    obtain ⟨hg, ha⟩ := hw
    have h14 : nd.k = 1 ∨ nd.k = 2 ∨ nd.k = 3 ∨ nd.k = 4 := by
      have := good_kind hg
      unfold ar at ha; split at ha <;> (try split at ha) <;> (try split at ha) <;> omega
    have hlen : (T.leaf nd).pr.length = 1 := rfl
    rw [hlen] at hn ⊢
    have c0 : c i = leafC nd := hs.head
    have hz : nd.k ≠ 3 → nd = ⟨nd.k, 0⟩ := fun h => by
      unfold good at hg
      rw [if_neg h] at hg
      simp at hg
      obtain ⟨a, b⟩ := nd
      simp at hg ⊢
      exact hg.1
    have at1 : atomP k c n (unionP k c n f) i = .ok (i + 1, [nd]) ∧ skipB c n i = i ∧ pk c n i ≠ 33 := by
      unfold atomP
      rcases h14 with h | h | h | h
      · have e : leafC nd = 48 := by unfold leafC; rw [if_pos h]
        obtain ⟨p1, p2⟩ := pk_at (c := c) (n := n) (i := i) (by omega) (by omega)
        have hL : ¬ isLet k 48 = true := by simp [isLet]
        rw [p1, p2, c0, e, if_neg hL, if_pos rfl]
        exact ⟨by rw [hz (by omega), h], rfl, by decide⟩
      · have e : leafC nd = 49 := by unfold leafC; rw [if_neg (by omega), if_pos h]
        obtain ⟨p1, p2⟩ := pk_at (c := c) (n := n) (i := i) (by omega) (by omega)
        have hL : ¬ isLet k 49 = true := by simp [isLet]
        rw [p1, p2, c0, e, if_neg hL, if_neg (by decide), if_pos rfl]
        exact ⟨by rw [hz (by omega), h], rfl, by decide⟩
      · have e : leafC nd = nd.s := by unfold leafC; rw [if_neg (by omega), if_neg (by omega), if_neg (by omega)]
        have hL := hl h
        have hr : 97 ≤ nd.s := by have := hL; simp [isLet] at this; omega
        obtain ⟨p1, p2⟩ := pk_at (c := c) (n := n) (i := i) (by omega) (by omega)
        rw [p1, p2, c0, e, if_pos hL]
        refine ⟨?_, rfl, by omega⟩
        obtain ⟨a, b⟩ := nd
        simp only at h
        rw [h]
      · have e : leafC nd = 46 := by unfold leafC; rw [if_neg (by omega), if_neg (by omega), if_pos h]
        obtain ⟨p1, p2⟩ := pk_at (c := c) (n := n) (i := i) (by omega) (by omega)
        have hL : ¬ isLet k 46 = true := by simp [isLet]
        rw [p1, p2, c0, e, if_neg hL, if_neg (by decide), if_neg (by decide), if_pos rfl]
        exact ⟨by rw [hz (by omega), h], rfl, by decide⟩
    exact Reads.of5 _ (lift5 at1.1) at1.2.1 at1.2.2
  | un nd a ih =>
    intro hw hl i f hs hn hf
    obtain ⟨hg, ha, hwa⟩ := hw
    have ih := ih hwa hl
    have h89 : nd.k = 8 ∨ nd.k = 9 := by
      have := good_kind hg
      unfold ar at ha; split at ha <;> (try split at ha) <;> (try split at ha) <;> omega
    have hz : nd = ⟨nd.k, 0⟩ := by
      unfold good at hg
      rw [if_neg (by omega)] at hg
      simp at hg
      obtain ⟨a, b⟩ := nd
      simp at hg ⊢
      exact hg.1
    rcases h89 with h | h
    · rw [T.pr_un, if_pos h] at hs hn ⊢
      have hlen : (wrapP a.bd a.pr 5 ++ [42]).length = (wrapP a.bd a.pr 5).length + 1 := by simp
      rw [hlen] at hn ⊢
      obtain ⟨ch, l, w1, w2, w3, w4⟩ := wrap_first hk hwa hl 5
      have c0 : c i = ch := by have := hs.left; rw [w1] at this; exact this.head
      have c1 := hs.right.head
      obtain ⟨p1, p2⟩ := pk_at (c := c) (n := n) (i := i) (by omega) (by omega)
      obtain ⟨q1, q2⟩ := pk_at (c := c) (n := n) (i := i + (wrapP a.bd a.pr 5).length) (by omega) (by omega)
      obtain ⟨g, hg1, hg2⟩ := (part h8 ih 5 i f hs.left (by omega) hf).1 (by omega)
      obtain ⟨g', rfl⟩ : ∃ g', g = g' + 1 := ⟨g - 1, by omega⟩
      have h5 : Lv5 k c n (unionP k c n f) i (i + ((wrapP a.bd a.pr 5).length + 1)) (T.un nd a).flat := by
        refine ⟨g', by omega, ?_⟩
        rw [hg2]
        conv => lhs; unfold postL
        rw [if_pos (by rw [q1, c1]), q2, show (T.un nd a).flat = a.flat ++ [nd] from rfl, hz, h]
        rfl
      exact Reads.of5 _ h5 p2 (by rw [p1, c0]; exact w4 (by omega))
    · rw [T.pr_un, if_neg (by omega)] at hs hn ⊢
      have hlen : (33 :: wrapP a.bd a.pr 4).length = (wrapP a.bd a.pr 4).length + 1 := by simp
      rw [hlen] at hn ⊢
      have h4 := (part h8 ih 4 (i + 1) f hs.tail (by omega) (by omega)).2.1 (by omega)
      have h5 := not4 (by omega) hs.head h4
      have hb : (T.un nd a).bd = 4 := by unfold T.bd T.root bnd; rw [h]; rfl
      rw [hb, show (T.un nd a).flat = a.flat ++ [nd] from rfl, hz, h, show i + ((wrapP a.bd a.pr 4).length + 1) = i + 1 + (wrapP a.bd a.pr 4).length by omega]
      exact Reads.of4 h5
  | bin nd a b iha ihb =>
    intro hw hl i f hs hn hf
    obtain ⟨hg, ha, hwa, hwb⟩ := hw
    have iha := iha hwa hl.1
    have ihb := ihb hwb hl.2
    have h567 : nd.k = 5 ∨ nd.k = 6 ∨ nd.k = 7 := by
      have := good_kind hg
      unfold ar at ha; split at ha <;> (try split at ha) <;> (try split at ha) <;> omega
    have hz : nd = ⟨nd.k, 0⟩ := by
      unfold good at hg
      rw [if_neg (by omega)] at hg
      simp at hg
      obtain ⟨a, b⟩ := nd
      simp at hg ⊢
      exact hg.1
    rw [T.pr_bin] at hs hn ⊢
    have hbd : (T.bin nd a b).bd = bnd nd.k := rfl
    have hfl : (T.bin nd a b).flat = a.flat ++ b.flat ++ [nd] := rfl
    rw [hbd, hfl, hz]
    rcases h567 with h | h | h
    · have e1 : bnd nd.k = 1 := by rw [h]; rfl
      have e2 : signC nd.k = [124] := by rw [h]; rfl
      rw [e1, e2] at hs hn ⊢
      rw [h]
      have hlen : (wrapP a.bd a.pr 1 ++ [124] ++ wrapP b.bd b.pr (1 + 1)).length = (wrapP a.bd a.pr 1).length + 1 + (wrapP b.bd b.pr 2).length := by simp; omega
      rw [hlen] at hn ⊢
      have sa := hs.left.left
      have c1 := hs.left.right.head
      have sb := hs.right
      rw [List.length_append, List.length_singleton] at sb
      obtain ⟨q1, q2⟩ := pk_at (c := c) (n := n) (i := i + (wrapP a.bd a.pr 1).length) (by omega) (by omega)
      refine Reads.of1 fun st nb n1 n2 => ?_
      obtain ⟨g, hg1, hg2⟩ := (part h8 iha 1 i f sa (by omega) hf).2.2.2.2 ⟨q2, by omega, by omega⟩ (by rw [q1, c1]; exact begs_124 h8) (by omega) (by omega)
      obtain ⟨g', rfl⟩ : ∃ g', g = g' + 1 := ⟨g - 1, by omega⟩
      have e3 : i + ((wrapP a.bd a.pr 1).length + 1 + (wrapP b.bd b.pr 2).length) = i + ((wrapP a.bd a.pr 1).length + 1) + (wrapP b.bd b.pr 2).length := by omega
      rw [e3] at st nb n1 n2 ⊢
      obtain ⟨g2, _, hb2⟩ := (part h8 ihb 2 (i + ((wrapP a.bd a.pr 1).length + 1)) f sb (by omega) (by omega)).2.2.2.1 (by omega) st nb
      refine ⟨g', by omega, ?_⟩
      rw [hg2]
      conv => lhs; unfold uniL
      rw [if_pos (by rw [q1, c1]), q2, show i + (wrapP a.bd a.pr 1).length + 1 = i + ((wrapP a.bd a.pr 1).length + 1) by omega, hb2, intL_stop st n1 n2]
    · have e1 : bnd nd.k = 2 := by rw [h]; rfl
      have e2 : signC nd.k = [38] := by rw [h]; rfl
      rw [e1, e2] at hs hn ⊢
      rw [h]
      have hlen : (wrapP a.bd a.pr 2 ++ [38] ++ wrapP b.bd b.pr (2 + 1)).length = (wrapP a.bd a.pr 2).length + 1 + (wrapP b.bd b.pr 3).length := by simp; omega
      rw [hlen] at hn ⊢
      have sa := hs.left.left
      have c1 := hs.left.right.head
      have sb := hs.right
      rw [List.length_append, List.length_singleton] at sb
      obtain ⟨q1, q2⟩ := pk_at (c := c) (n := n) (i := i + (wrapP a.bd a.pr 2).length) (by omega) (by omega)
      refine Reads.of2 fun st nb => ?_
      obtain ⟨g, hg1, hg2⟩ := (part h8 iha 2 i f sa (by omega) hf).2.2.2.1 (by omega) ⟨q2, by omega, by omega⟩ (by rw [q1, c1]; exact begs_38 h8)
      obtain ⟨g', rfl⟩ : ∃ g', g = g' + 1 := ⟨g - 1, by omega⟩
      have e3 : i + ((wrapP a.bd a.pr 2).length + 1 + (wrapP b.bd b.pr 3).length) = i + ((wrapP a.bd a.pr 2).length + 1) + (wrapP b.bd b.pr 3).length := by omega
      rw [e3] at st nb ⊢
      obtain ⟨g2, _, hb2⟩ := (part h8 ihb 3 (i + ((wrapP a.bd a.pr 2).length + 1)) f sb (by omega) (by omega)).2.2.1 (by omega) st
      refine ⟨g', by omega, ?_⟩
      rw [hg2]
      conv => lhs; unfold intL
      rw [if_pos (by rw [q1, c1]; exact .inl rfl), q2, show i + (wrapP a.bd a.pr 2).length + 1 = i + ((wrapP a.bd a.pr 2).length + 1) by omega, hb2, conL_stop st nb]
      have e45 : ¬ pk c n (i + (wrapP a.bd a.pr 2).length) = 45 := by rw [q1, c1]; decide
      simp only [if_neg e45, List.append_nil]
    · have e1 : bnd nd.k = 3 := by rw [h]; rfl
      have e2 : signC nd.k = [] := by rw [h]; rfl
      rw [e1, e2] at hs hn ⊢
      rw [h]
      rw [List.append_nil] at hs hn ⊢
      have hlen : (wrapP a.bd a.pr 3 ++ wrapP b.bd b.pr (3 + 1)).length = (wrapP a.bd a.pr 3).length + (wrapP b.bd b.pr 4).length := by simp
      rw [hlen] at hn ⊢
      have sa := hs.left
      have sb := hs.right
      obtain ⟨ch, l, w1, w2, w3, w4⟩ := wrap_first hk hwb hl.2 4
      have c1 : c (i + (wrapP a.bd a.pr 3).length) = ch := by
        have := sb; rw [show (3 + 1 : Nat) = 4 from rfl, w1] at this; exact this.head
      have hbl : 1 ≤ (wrapP b.bd b.pr 4).length := by rw [w1]; simp
      have hbg := w3 (by omega)
      obtain ⟨b1, b2⟩ := begs_not hbg
      obtain ⟨q1, q2⟩ := pk_at (c := c) (n := n) (i := i + (wrapP a.bd a.pr 3).length) (by omega) (by omega)
      refine Reads.of3 fun st => ?_
      obtain ⟨g, hg1, hg2⟩ := (part h8 iha 3 i f sa (by omega) hf).2.2.1 (by omega) ⟨q2, by omega, by omega⟩
      obtain ⟨g', rfl⟩ : ∃ g', g = g' + 1 := ⟨g - 1, by omega⟩
      rw [← Nat.add_assoc] at st ⊢
      have hb2 := (part h8 ihb 4 (i + (wrapP a.bd a.pr 3).length) f sb (by omega) (by omega)).2.1 (by omega) st
      refine ⟨g', by omega, ?_⟩
      rw [hg2]
      conv => lhs; unfold conL
      rw [if_pos (by rw [q1, c1]; exact hbg), q2, hb2]
end
/-- The print of a tree is read as the tree. -/
theorem parse_print {k : Int} {c : Nat → Int} {x : T} (hk : 1 ≤ k) (h8 : k ≤ 8) (hw : x.wf) (hl : x.lets k) (hs : Seg c 0 x.pr) (hn : x.pr.length ≤ 1000) (hd : x.dep everyK ≤ 128) : parseP k c x.pr.length = (0, 0, x.flat) := by
  have h := (print_read hk h8 x hw hl (c := c) (n := x.pr.length) 0 x.pr.length hs (by omega) (by omega)).2.2.2.2
  rw [Nat.zero_add] at h
  have hsk : skipB c x.pr.length x.pr.length = x.pr.length := skip_here (by omega)
  have hpk : pk c x.pr.length x.pr.length = 0 := by unfold pk; rw [hsk, if_neg (by omega)]
  obtain ⟨g, _, hg⟩ := h ⟨hsk, by omega, by omega⟩ (by rw [hpk]; have := begs_41 h8; simp [begs, isLet]) (by omega) (by omega)
  have hu : unionP k c x.pr.length (x.pr.length + 1) 0 = .ok (x.pr.length, x.flat) := by
    rw [unionP_uni, hg]
    exact uniL_stop ⟨hsk, by omega, by omega⟩ (by omega)
  unfold parseP
  rw [if_neg (by omega), if_neg (by omega), hu]
  simp only [hsk, tr_flat hw]
  rw [if_neg (by omega), if_neg (by omega)]
end Go.Eg
