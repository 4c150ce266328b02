/- Walks of package syntax: post and prefix. Conditions: the reader's cells are as RdS says; what the part's rule answers is told by its contract. -/
import Derived.Test.YtaijjnndnoicpaaReadC
namespace Go.Proofs.Ytaijjnndnoicpaa
open Go.RowKit Go.Eg

set_option maxHeartbeats 4000000 in
theorem post_rule (k : Int) (hk : k ≤ 8) (s : ByteArray) (hs : s.size ≤ 1000) (b E f : Nat) (hE : E ≤ 50000) (un : Nat → PR) (hu : ∀ j, j ≤ s.size → Gd s.size j (un j))
    (HP : Rule 61 b k s E f (atomP k (bt s) s.size un)) : Rule 57 b k s E f (postP k (bt s) s.size un) := by
  intro w i0 out hS hi0 hl hf
  have HG := atomP_gd (c := bt s) hk hu hi0
  have HP0 := Lib.hid (HP w i0 out hS hi0 hl hf)
  clear HP
  obtain ⟨r0, hr0⟩ : ∃ r, r = atomP k (bt s) s.size un i0 := ⟨_, rfl⟩
  obtain ⟨r, HR⟩ : ∃ r, Hid (r = thenP r0 (postL (bt s) s.size (s.size + 1))) := ⟨_, Lib.hid rfl⟩
  have he : postP k (bt s) s.size un i0 = r := by rw [HR.out, hr0]; rfl
  rw [he]
  rw [← hr0] at HG HP0
  clear he
  go_enter Try.func57, Try.ntmps57
  go_wp2_with ((go_at_call 61; (with_reducible refine (HP0.out).mono ?_); rintro e w1 ⟨rfl, hb1, ha1⟩))
  go_loopw [10] (fun _ w' => (∃ (g i : Nat) (t : List Nd), St w' b k s i false (out ++ t) ∧ Hid (postL (bt s) s.size g i t = r) ∧ s.size - i < g ∧ i0 < i ∧ i ≤ s.size ∧ (out ++ t).length + 1 ≤ 2 * i ∧ Below b w w') ∨ (∃ p out', Hid (r = .error p) ∧ skipB (bt s) s.size p = p ∧ St w' b k s p true out' ∧ out'.length ≤ E ∧ Below b w w')) (fun _ w' => msr b s.size w')
  case atStart =>
    match r0, HG, ha1, HR with
    | .ok (m, t), hg, ha, hr => exact .inl ⟨s.size + 1, m, t, ha, Lib.hid hr.out.symm, by omega, hg.1, hg.2.1, by have := hg.2.2.2; simp at this ⊢; omega, hb1⟩
    | .error p, hg, ha, hr =>
      obtain ⟨h1, out', h2, h3⟩ := ha
      exact .inr ⟨p, out', hr, h1, h2, by omega, hb1⟩
  case round =>
    clear HP0 hr0 HR HG ha1 hb1 hS hl
    rcases hrel with ⟨g, i, t, hSt, HL, hg, hii, hin, hlen, hbw⟩ | ⟨p, out', HL, hskp, hSt, hlen, hbw⟩
    · have hge := skip_ge (bt s) s.size i
      have hle := skip_le (c := bt s) hin
      have hHP := Lib.hid (peek_st hSt hin hs)
      obtain ⟨v0, hR0, ho0⟩ := hSt
      have HMS := Lib.hid (msr_good s.size hR0)
      have h3 := hR0.c3
      clear hR0 ho0
      obtain ⟨g, rfl⟩ : ∃ g', g = g' + 1 := ⟨g - 1, by omega⟩
      obtain ⟨ch, hch⟩ : ∃ ch, ch = pk (bt s) s.size i := ⟨_, rfl⟩
      rw [← hch] at hHP
      have HU : Hid (postL (bt s) s.size (g + 1) i t = r) := HL
      clear HL
      have HB1 : Hid ((out ++ t).length ≤ 90000) := Lib.hid (by omega)
      have HB2 : Hid ((out ++ t ++ [(⟨2, 0⟩ : Nd)]).length ≤ 100000) := Lib.hid (by have := HB1.out; rw [List.length_append (bs := [_])]; simp only [List.length_singleton]; omega)
      by_cases hj : ch = 42
      · have hlt : skipB (bt s) s.size i < s.size := pk_lt (by rw [← hch]; omega)
        have HE : Hid (postL (bt s) s.size g (skipB (bt s) s.size i + 1) (t ++ [⟨8, 0⟩]) = r) := by
          refine Lib.hid (Eq.trans ?_ HU.out)
          conv => rhs; unfold postL
          rw [← hch, if_pos hj]
        generalize skipB (bt s) s.size i = q at *
        clear HU hch
        obtain rfl := hj
        go_wp2_with (first
            | ((go_at_call 20; (with_reducible refine (hHP.out).mono ?_); rintro e w1 ⟨rfl, hs1, hb1⟩))
            | ((go_at_call 45; (with_reducible refine (put_calls ⟨8, 0⟩ (by decide) k s q false (out ++ t) b w1 hs1 (Nat.le_trans HB1.out (by decide))).mono ?_); rintro e w3 ⟨rfl, hs4, hb4⟩); have hs5 := hs4.go (x := (q : Int) + 1) (j := q + 1) (by omega); (obtain ⟨v4, hR4, ho4⟩ := hs4; have := (hR4).c0; have := (hR4).c2; have := (hR4).c3; have := (hR4).f2; have := (hR4).f3)))
        go_roundw
        rw [List.append_assoc] at hs5
        case rel => exact .inl ⟨g, q + 1, _, hs5, HE, by omega, by omega, by omega, by simp at hlen ⊢; omega, ((hbw.trans hb1).trans hb4).setCell (Nat.le_refl _) _⟩
        case measure =>
          obtain ⟨v9, hR9, _⟩ := hs5
          rw [msr_good s.size hR9, HMS.out]
          omega
      · by_cases hj2 : ch = 63
        · have hlt : skipB (bt s) s.size i < s.size := pk_lt (by rw [← hch]; omega)
          have HE : Hid (postL (bt s) s.size g (skipB (bt s) s.size i + 1) (t ++ [⟨2, 0⟩, ⟨5, 0⟩]) = r) := by
            refine Lib.hid (Eq.trans ?_ HU.out)
            conv => rhs; unfold postL
            rw [← hch, if_neg hj, if_pos hj2]
          generalize skipB (bt s) s.size i = q at *
          clear HU hch hj
          obtain rfl := hj2
          go_wp2_with (first
            | ((go_at_call 20; (with_reducible refine (hHP.out).mono ?_); rintro e w1 ⟨rfl, hs1, hb1⟩))
            | ((go_at_call 45; (with_reducible refine (put_calls ⟨2, 0⟩ (by decide) k s q false (out ++ t) b w1 hs1 (Nat.le_trans HB1.out (by decide))).mono ?_); rintro e w3 ⟨rfl, hs4, hb4⟩))
            | ((go_at_call 45; (with_reducible refine (put_calls ⟨5, 0⟩ (by decide) k s q false (out ++ t ++ [⟨2, 0⟩]) b w3 hs4 HB2.out).mono ?_); rintro e w4 ⟨rfl, hs6, hb6⟩); have hs5 := hs6.go (x := (q : Int) + 1) (j := q + 1) (by omega); (obtain ⟨v4, hR4, ho4⟩ := hs6; have := (hR4).c0; have := (hR4).c2; have := (hR4).c3; have := (hR4).f2; have := (hR4).f3)))
          go_roundw
          rw [List.append_assoc, List.append_assoc] at hs5
          case rel => exact .inl ⟨g, q + 1, _, hs5, HE, by omega, by omega, by omega, by simp at hlen ⊢; omega, (((hbw.trans hb1).trans hb4).trans hb6).setCell (Nat.le_refl _) _⟩
          case measure =>
            obtain ⟨v9, hR9, _⟩ := hs5
            rw [msr_good s.size hR9, HMS.out]
            omega
        · have HE : Hid (r = .ok (skipB (bt s) s.size i, t)) := by
            refine Lib.hid (HU.out.symm.trans ?_)
            conv => lhs; unfold postL
            rw [← hch, if_neg hj, if_neg hj2]
          have h1 : (ch == 42) = false := by simp [hj]
          have h2 : (ch == 63) = false := by simp [hj2]
          clear HU hch hj hj2
          obtain rfl := HE.out
          go_wp2_with ((go_at_call 20; (with_reducible refine (hHP.out).mono ?_); rintro e w1 ⟨rfl, hs1, hb1⟩))
          (try simp only [Exit.inBlock, Exit.then]); refine bodyPost_ret (v := .tuple #[]) (by simp [results, Try.results57]) rfl ?_
          exact ⟨rfl, hbw.trans hb1, hs1⟩
    · have hHS := Lib.hid hSt
      obtain ⟨v0, hR0, ho0⟩ := hSt
      have h3 := hR0.c3
      obtain rfl := HL.out
      go_wp2_with fail
      (try simp only [Exit.inBlock, Exit.then]); refine bodyPost_end (v := .tuple #[]) (by simp [results, Try.results57]) rfl ?_
      exact ⟨rfl, hbw, hskp, out', hHS.out, hlen⟩

set_option maxHeartbeats 4000000 in
theorem prefix_rule (k : Int) (hk : k ≤ 8) (s : ByteArray) (hs : s.size ≤ 1000) (b E f : Nat) (hE : E ≤ 50000) (un : Nat → PR) (hu : ∀ j, j ≤ s.size → Gd s.size j (un j))
    (HP : Rule 57 b k s E f (postP k (bt s) s.size un)) : Rule 53 b k s E f (prefP k (bt s) s.size un) := by
  intro w i0 out hS hi0 hl hf
  have HP := Lib.hid HP
  obtain ⟨N, HN⟩ : ∃ N, Hid (N = notsL (bt s) s.size (s.size + 1) i0 0) := ⟨_, Lib.hid rfl⟩
  have hpp : prefP k (bt s) s.size un i0 = thenP (postP k (bt s) s.size un N.1) (fun m t => .ok (m, t ++ List.replicate N.2 ⟨9, 0⟩)) := by rw [HN.out]; rfl
  obtain ⟨R, HR⟩ : ∃ R, Hid (R = thenP (postP k (bt s) s.size un N.1) (fun m t => .ok (m, t ++ List.replicate N.2 ⟨9, 0⟩))) := ⟨_, Lib.hid rfl⟩
  rw [hpp, ← HR.out]
  clear hpp
  go_enter Try.func53, Try.ntmps53
  go_wp2_with fail
  go_loopw [2] (fun v2 w' => ∃ (g i m : Nat), v2 = .int .i64 m ∧ St w' b k s i false out ∧ Hid (notsL (bt s) s.size g i m = N) ∧ s.size - i < g ∧ i0 ≤ i ∧ i ≤ s.size ∧ m + i0 ≤ i ∧ Below b w w') (fun _ w' => msr b s.size w')
  case atStart => exact ⟨s.size + 1, i0, 0, rfl, hS, Lib.hid HN.out.symm, by omega, by omega, hi0, by omega, Below.refl _ _⟩
  case round =>
    clear HN
    obtain ⟨g, i, m, rfl, hSt, HL, hg, hii, hin, hm, hbw⟩ := hrel
    have hge := skip_ge (bt s) s.size i
    have hle := skip_le (c := bt s) hin
    have hHP := Lib.hid (peek_st hSt hin hs)
    obtain ⟨v0, hR0, ho0⟩ := hSt
    have HMS := Lib.hid (msr_good s.size hR0)
    have h3 := hR0.c3
    clear hR0 ho0 hS
    obtain ⟨g, rfl⟩ : ∃ g', g = g' + 1 := ⟨g - 1, by omega⟩
    obtain ⟨ch, hch⟩ : ∃ ch, ch = pk (bt s) s.size i := ⟨_, rfl⟩
    rw [← hch] at hHP
    have HU : Hid (notsL (bt s) s.size (g + 1) i m = N) := HL
    clear HL
    by_cases hj : ch = 33
    · have hlt : skipB (bt s) s.size i < s.size := pk_lt (by rw [← hch]; omega)
      have HE : Hid (notsL (bt s) s.size g (skipB (bt s) s.size i + 1) (m + 1) = N) := by
        refine Lib.hid (Eq.trans ?_ HU.out)
        conv => rhs; unfold notsL
        rw [← hch, if_pos hj]
      generalize skipB (bt s) s.size i = q at *
      clear HU hch
      obtain rfl := hj
      go_wp2_with ((go_at_call 20; (with_reducible refine (hHP.out).mono ?_); rintro e w1 ⟨rfl, hs1, hb1⟩); have hs5 := hs1.go (x := (q : Int) + 1) (j := q + 1) (by omega); (obtain ⟨v4, hR4, ho4⟩ := hs1; have := (hR4).c0; have := (hR4).c2; have := (hR4).c3; have := (hR4).f2; have := (hR4).f3))
      go_roundw
      case rel => exact ⟨g, q + 1, m + 1, val_int (by omega), hs5, HE, by omega, by omega, by omega, by omega, (hbw.trans hb1).setCell (Nat.le_refl _) _⟩
      case measure =>
        obtain ⟨v9, hR9, _⟩ := hs5
        rw [msr_good s.size hR9, HMS.out]
        omega
    · have HE : Hid (N = (skipB (bt s) s.size i, m)) := by
        refine Lib.hid (HU.out.symm.trans ?_)
        conv => lhs; unfold notsL
        rw [← hch, if_neg hj]
      have h1 : (ch == 33) = false := by simp [hj]
      clear HU hch hj
      obtain rfl := HE.out
      have HQ := Lib.hid (fun w2 h => HP.out w2 (skipB (bt s) s.size i) out h hle (by omega) (by omega))
      have HG := postP_gd (c := bt s) hk hu hle
      generalize postP k (bt s) s.size un (skipB (bt s) s.size i) = r at *
      generalize skipB (bt s) s.size i = q at *
      match r, HG, HQ, HR with
      | .ok (j, u), hg1, HQ, HR =>
        have HR : Hid (R = .ok (j, u ++ List.replicate m ⟨9, 0⟩)) := HR
        obtain rfl := HR.out
        have HB1 : Hid ((out ++ u).length ≤ 90000) := Lib.hid (by have h1 := hg1.2.1; have h2 := hg1.2.2.2; simp only [List.length_append] at h2 ⊢; omega)
        go_wp2_with (first
            | ((go_at_call 20; (with_reducible refine (hHP.out).mono ?_); rintro e w1 ⟨rfl, hs1, hb1⟩))
            | ((go_at_call 57; (with_reducible refine (HQ.out _ hs1).mono ?_); rintro e w2 ⟨rfl, hb2, hs2⟩); have hs2 : St w2 b k s j false (out ++ u) := hs2))
        go_loopw [2] (fun v2 w' => ∃ l : Nat, v2 = .int .i64 l ∧ l ≤ m ∧ St w' b k s j false (out ++ (u ++ List.replicate (m - l) ⟨9, 0⟩)) ∧ Below b w w') (fun v2 _ => (intOf v2).toNat)
        case atStart => exact ⟨m, rfl, Nat.le_refl _, by rw [Nat.sub_self, List.replicate_zero, List.append_nil]; exact hs2, (hbw.trans hb1).trans hb2⟩
        case round =>
          clear hs1 hs2 hb1 hb2
          obtain ⟨l, rfl, hlm, hSt, hbl⟩ := hrel
          have hHS := Lib.hid hSt
          obtain ⟨v0, hR0, ho0⟩ := hSt
          have h3 := hR0.c3
          clear hR0 ho0
          by_cases hl0 : l = 0
          · subst hl0
            go_wp2_with fail
            (try simp only [Exit.inBlock, Exit.then]); refine bodyPost_end (v := .tuple #[]) (by simp [results, Try.results53]) rfl ?_
            exact ⟨rfl, hbl, hHS.out⟩
          · have hd : decide ((0 : Int) < l) = true := by simp; omega
            have HB2 : Hid ((out ++ (u ++ List.replicate (m - l) (⟨9, 0⟩ : Nd))).length ≤ 100000) := Lib.hid (by have := HB1.out; simp at this ⊢; omega)
            go_wp2_with ((go_at_call 45; (with_reducible refine (put_calls ⟨9, 0⟩ (by decide) k s j false _ b _ hHS.out HB2.out).mono ?_); rintro e w3 ⟨rfl, hs4, hb4⟩))
            go_roundw
            case rel => exact ⟨l - 1, val_int (by omega), by omega, by rw [show m - (l - 1) = (m - l) + 1 by omega, List.replicate_succ', ← List.append_assoc u, ← List.append_assoc]; exact hs4, hbl.trans hb4⟩
            case measure => simp [intOf]; omega
      | .error p, hg1, HQ, HR =>
        have HR : Hid (R = .error p) := HR
        obtain rfl := HR.out
        go_wp2_with (first
            | ((go_at_call 20; (with_reducible refine (hHP.out).mono ?_); rintro e w1 ⟨rfl, hs1, hb1⟩))
            | ((go_at_call 57; (with_reducible refine (HQ.out _ hs1).mono ?_); rintro e w2 ⟨rfl, hb2, hsk9, u, hs3, hl3⟩)))
        go_loopw [2] (fun v2 w' => ∃ l : Nat, v2 = .int .i64 l ∧ w' = w2) (fun v2 _ => (intOf v2).toNat)
        case atStart => exact ⟨m, rfl, rfl⟩
        case round =>
          obtain ⟨l, rfl, rfl⟩ := hrel
          have hHS := Lib.hid hs3
          obtain ⟨v0, hR0, ho0⟩ := hs3
          have h3 := hR0.c3
          clear hR0 ho0
          go_wp2_with fail
          all_goals
            (try simp only [Exit.inBlock, Exit.then]); refine bodyPost_end (v := .tuple #[]) (by simp [results, Try.results53]) rfl ?_
            exact ⟨rfl, (hbw.trans hb1).trans hb2, hsk9, u, hHS.out, hl3⟩
end Go.Proofs.Ytaijjnndnoicpaa
