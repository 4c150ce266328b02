/- Walks of the reference of chapter 4: post, prefix, atom; the rules, one by the other. Conditions: the reader's cells are as RdR says. -/
import Derived.Test.YtaijjnndnoicpaaRefSynB
namespace Go.Proofs.Ytaijjnndnoicpaa
open Go.RowKit Go.Eg

theorem grown_below {w w1 w2 : World} {r : Option Nat} (h : w.grownBy w1 r) (k : Below w.heap.size w1 w2) : w.grownBy w2 r :=
  ⟨k.os.trans h.os, k.tape.trans h.tape, k.output.trans h.output, Nat.le_trans h.size k.size, fun i hi hr => (k.block i hi).trans (h.block i hi hr)⟩

set_option maxHeartbeats 4000000 in
theorem rpost_rule (k : Int) (hk : k ≤ 8) (s : ByteArray) (hs : s.size ≤ 1000) (b E f : Nat) (un : Nat → PR) (hu : ∀ j, j ≤ s.size → Gd s.size j (un j))
    (HP : RuleR 62 b k s E f (atomP k (bt s) s.size un)) : RuleR 59 b k s E f (postP k (bt s) s.size un) := by
  intro w i0 hR0 hi0 hf
  have hbw := hR0.lt
  have HG := atomP_gd (c := bt s) hk hu hi0
  have HP0 := Lib.hid (HP w i0 hR0 hi0 hf)
  clear HP
  obtain ⟨r0, hr0⟩ : ∃ r, r = atomP k (bt s) s.size un i0 := ⟨_, rfl⟩
  obtain ⟨r, HR⟩ : ∃ r, Hid (r = thenP r0 (postL (bt s) s.size (s.size + 1))) := ⟨_, Lib.hid rfl⟩
  have he : postP k (bt s) s.size un i0 = r := by rw [HR.out, hr0]; rfl
  rw [he]
  rw [← hr0] at HG HP0
  clear he
  go_enter Try.func59, Try.ntmps59
  go_wp2_with ((go_at_call 62; (with_reducible refine (HP0.out).mono ?_); rintro e w1 ⟨v1, t1, rfl, ho1, hg1, ha1⟩))
  go_loopw [3, 4] (fun v3 _ w' => (∃ (g i : Nat) (t : List Nd), RdR w' b k s i (-1) ∧ Own tyNd 54 w.heap.size No w' t v3 ∧ Hid (postL (bt s) s.size g i t = r) ∧ s.size - i < g ∧ i0 < i ∧ i ≤ s.size ∧ t.length ≤ 2 * i ∧ w.grownBy w' (some b)) ∨ (∃ (p : Nat) (t' : List Nd), Hid (r = .error p) ∧ skipB (bt s) s.size p = p ∧ RdR w' b k s p p ∧ Own tyNd 54 w.heap.size No w' t' v3 ∧ t'.length ≤ E ∧ w.grownBy w' (some b))) (fun _ _ w' => mrr b s.size w')
  case atStart =>
    match r0, HG, ha1, HR with
    | .ok (m, t), hg, ha, hr =>
      obtain ⟨rfl, ha⟩ := ha
      exact .inl ⟨s.size + 1, m, t1, ha, ho1, Lib.hid hr.out.symm, by omega, hg.1, hg.2.1, by have := hg.2.2.2; omega, hg1⟩
    | .error p, hg, ha, hr =>
      obtain ⟨h1, h2, h3⟩ := ha
      exact .inr ⟨p, t1, hr, h3, h1, ho1, by omega, hg1⟩
  case round =>
    clear HP0 hr0 HR HG ha1 ho1 hg1 hR0
    rcases hrel with ⟨g, i, t, hRi, ho, HL, hg, hii, hin, hlen, hgw⟩ | ⟨p, t', HL, hskp, hRp, ho, hlen, hgw⟩
    · have hge := skip_ge (bt s) s.size i
      have hle := skip_le (c := bt s) hin
      have hNX := Lib.hid (next_calls k s (-1) b i wr hRi hin hs)
      have HMS := Lib.hid (mrr_good s.size hRi)
      have h3 := hRi.c3
      have hbr := hRi.lt
      clear hRi
      obtain ⟨g, rfl⟩ : ∃ g', g = g' + 1 := ⟨g - 1, by omega⟩
      obtain ⟨ch, hch⟩ : ∃ ch, ch = pk (bt s) s.size i := ⟨_, rfl⟩
      rw [← hch] at hNX
      have HU : Hid (postL (bt s) s.size (g + 1) i t = r) := HL
      have HO := Lib.hid ho
      clear HL ho
      have hwl := hgw.size
      by_cases hj : ch = 42
      · have hlt : skipB (bt s) s.size i < s.size := pk_lt (by rw [← hch]; omega)
        have HE : Hid (postL (bt s) s.size g (skipB (bt s) s.size i + 1) (t ++ [⟨8, 0⟩]) = r) := by
          refine Lib.hid (Eq.trans ?_ HU.out)
          conv => rhs; unfold postL
          rw [← hch, if_pos hj]
        generalize skipB (bt s) s.size i = q at *
        clear HU hch
        obtain rfl := hj
        go_wp2_with (first
          | ((go_at_call 24; (with_reducible refine (hNX.out).mono ?_); rintro e w1 ⟨rfl, hR1, hgn⟩); have hos := ownGrow HO.out hgn hbw; have hsz1 := hgn.size)
          | ((with_reducible refine gate_bi .append #[.tmp 18, .tmp 20] ?_); refine wp_append (t := tyNd) 54 w.heap.size 16 elNd No _ t rfl (hos.ext ((Ext.refl _).alloc _)) _ [⟨8, 0⟩] rfl Any (SlP.one _ _ (fun _ _ => ⟨rfl, (show (0 : Int) ≤ 0 ∧ (0 : Int) ≤ 255 from by decide)⟩)) (fun _ _ h => h) (by simp; omega) (by decide) (by simp; omega) ?_; intro v6 w6 ho6 hg6 _; have hR6 := (hR1.ext ((Ext.refl _).alloc _)).keep (hg6.block b (by simp; omega) (fun e => by have := hos.lo b e.symm; omega)); have c2 := hR6.c2; have f2 := hR6.f2; have c3 := hR6.c3))
        have hx := hR6.go (x := (q : Int) + 1) (j := q + 1) (by omega)
        have hgx : w.grownBy (w6.setCell ⟨b, 2, none⟩ (.int .i64 ((q : Int) + 1))) (some b) := by
          have h1 : Below w.heap.size w1 w6 := ((Below.refl _ w1).alloc (by omega) _).grown hg6 (by simp; omega) (fun k hk => hos.lo k hk)
          exact grown_trans (grown_below (grown_trans hgw hgn) h1) (grown_set _ _ _ _)
        go_roundw
        case rel => exact .inl ⟨g, q + 1, _, hx, ho6.set _ _ hbw (fun _ h => h.elim), HE, by omega, by omega, by omega, by simp; omega, hgx⟩
        case measure =>
          rw [mrr_good s.size hx, HMS.out]
          omega
      · by_cases hj2 : ch = 63
        · have hlt : skipB (bt s) s.size i < s.size := pk_lt (by rw [← hch]; omega)
          have HE : Hid (postL (bt s) s.size g (skipB (bt s) s.size i + 1) (t ++ [⟨2, 0⟩, ⟨5, 0⟩]) = r) := by
            refine Lib.hid (Eq.trans ?_ HU.out)
            conv => rhs; unfold postL
            rw [← hch, if_neg hj, if_pos hj2]
          generalize skipB (bt s) s.size i = q at *
          clear HU hch hj
          obtain rfl := hj2
          go_wp2_with (first
            | ((go_at_call 24; (with_reducible refine (hNX.out).mono ?_); rintro e w1 ⟨rfl, hR1, hgn⟩); have hos := ownGrow HO.out hgn hbw; have hsz1 := hgn.size)
            | ((go_at_call 63; (with_reducible refine (leaf_calls ⟨2, 0⟩ (by decide) w1).mono ?_); rintro e w2 ⟨v2, rfl, ho2, h2⟩))
            | ((go_at_call 41; (with_reducible refine (join_calls t [⟨2, 0⟩] 5 _ _ w2 (hos.rd.ext h2) ho2.rd (by omega) (by decide)).mono ?_); rintro e w3 ⟨v3', rfl, ho3, h3x⟩); have hR6 := (hR1.ext h2).ext h3x; have c2 := hR6.c2; have f2 := hR6.f2; have c3 := hR6.c3))
          have hx := hR6.go (x := (q : Int) + 1) (j := q + 1) (by omega)
          have hgx : w.grownBy (w3.setCell ⟨b, 2, none⟩ (.int .i64 ((q : Int) + 1))) (some b) := grown_trans (grown_trans (grown_trans hgw hgn) ((h2.trans h3x).grownBy _)) (grown_set _ _ _ _)
          have hoj := ho3.rebase (base' := w.heap.size) (fun k hk => by have := ho3.lo k hk; have := h2.le; omega)
          go_roundw
          case rel => exact .inl ⟨g, q + 1, _, hx, hoj.set _ _ hbw (fun _ h => h.elim), by simpa only [List.append_assoc, List.singleton_append, List.cons_append, List.nil_append] using HE, by omega, by omega, by omega, by simp; omega, hgx⟩
          case measure =>
            rw [mrr_good s.size hx, HMS.out]
            omega
        · have HE : Hid (r = .ok (skipB (bt s) s.size i, t)) := by
            refine Lib.hid (HU.out.symm.trans ?_)
            conv => lhs; unfold postL
            rw [← hch, if_neg hj, if_neg hj2]
          have e1 : (ch == 42) = false := by simp [hj]
          have e2 : (ch == 63) = false := by simp [hj2]
          clear HU hch hj hj2
          obtain rfl := HE.out
          go_wp2_with ((go_at_call 24; (with_reducible refine (hNX.out).mono ?_); rintro e w1 ⟨rfl, hR1, hgn⟩))
          go_ret
          exact ⟨_, t, rfl, ownGrow HO.out hgn hbw, grown_trans hgw hgn, rfl, hR1⟩
    · have h3 := hRp.c3
      have hpz : decide ((p : Int) < 0) = false := by simp
      obtain rfl := HL.out
      have HO := Lib.hid ho
      clear ho
      go_wp2_with fail
      go_ret
      exact ⟨_, t', rfl, HO.out, hgw, hRp, hlen, hskp⟩

set_option maxHeartbeats 4000000 in
theorem rprefix_rule (k : Int) (hk : k ≤ 8) (s : ByteArray) (hs : s.size ≤ 1000) (b E f : Nat) (un : Nat → PR) (hu : ∀ j, j ≤ s.size → Gd s.size j (un j))
    (HP : RuleR 59 b k s E f (postP k (bt s) s.size un)) : RuleR 55 b k s E f (prefP k (bt s) s.size un) := by
  intro w i0 hR0 hi0 hf
  have hbw := hR0.lt
  have HP := Lib.hid HP
  obtain ⟨N, HN⟩ : ∃ N, Hid (N = notsL (bt s) s.size (s.size + 1) i0 0) := ⟨_, Lib.hid rfl⟩
  have hpp : prefP k (bt s) s.size un i0 = thenP (postP k (bt s) s.size un N.1) (fun m t => .ok (m, t ++ List.replicate N.2 ⟨9, 0⟩)) := by rw [HN.out]; rfl
  obtain ⟨R, HR⟩ : ∃ R, Hid (R = thenP (postP k (bt s) s.size un N.1) (fun m t => .ok (m, t ++ List.replicate N.2 ⟨9, 0⟩))) := ⟨_, Lib.hid rfl⟩
  rw [hpp, ← HR.out]
  clear hpp
  go_enter Try.func55, Try.ntmps55
  go_wp2_with fail
  go_loopw [3] (fun v3 w' => ∃ (g i m : Nat), v3 = .int .i64 m ∧ RdR w' b k s i (-1) ∧ Hid (notsL (bt s) s.size g i m = N) ∧ s.size - i < g ∧ i0 ≤ i ∧ i ≤ s.size ∧ m + i0 ≤ i ∧ w.grownBy w' (some b)) (fun _ w' => mrr b s.size w')
  case atStart => exact ⟨s.size + 1, i0, 0, rfl, hR0, Lib.hid HN.out.symm, by omega, by omega, hi0, by omega, grown_refl _ _⟩
  case round =>
    clear HN
    obtain ⟨g, i, m, rfl, hRi, HL, hg, hii, hin, hm, hgw⟩ := hrel
    have hge := skip_ge (bt s) s.size i
    have hle := skip_le (c := bt s) hin
    have hNX := Lib.hid (next_calls k s (-1) b i wr hRi hin hs)
    have HMS := Lib.hid (mrr_good s.size hRi)
    have h3 := hRi.c3
    clear hRi hR0
    have hwl := hgw.size
    obtain ⟨g, rfl⟩ : ∃ g', g = g' + 1 := ⟨g - 1, by omega⟩
    obtain ⟨ch, hch⟩ : ∃ ch, ch = pk (bt s) s.size i := ⟨_, rfl⟩
    rw [← hch] at hNX
    have HU : Hid (notsL (bt s) s.size (g + 1) i m = N) := HL
    clear HL
    by_cases hj : ch = 33
    · have hlt : skipB (bt s) s.size i < s.size := pk_lt (by rw [← hch]; omega)
      have HE : Hid (notsL (bt s) s.size g (skipB (bt s) s.size i + 1) (m + 1) = N) := by
        refine Lib.hid (Eq.trans ?_ HU.out)
        conv => rhs; unfold notsL
        rw [← hch, if_pos hj]
      generalize skipB (bt s) s.size i = q at *
      clear HU hch
      obtain rfl := hj
      go_wp2_with ((go_at_call 24; (with_reducible refine (hNX.out).mono ?_); rintro e w1 ⟨rfl, hR1, hgn⟩); have hx := hR1.go (x := (q : Int) + 1) (j := q + 1) (by omega); have c2 := hR1.c2; have f2 := hR1.f2)
      go_roundw
      case rel => exact ⟨g, q + 1, m + 1, val_int (by omega), hx, HE, by omega, by omega, by omega, by omega, grown_trans (grown_trans hgw hgn) (grown_set _ _ _ _)⟩
      case measure =>
        rw [mrr_good s.size hx, HMS.out]
        omega
    · have HE : Hid (N = (skipB (bt s) s.size i, m)) := by
        refine Lib.hid (HU.out.symm.trans ?_)
        conv => lhs; unfold notsL
        rw [← hch, if_neg hj]
      have e1 : (ch == 33) = false := by simp [hj]
      clear HU hch hj
      obtain rfl := HE.out
      have HQ := Lib.hid (fun w2 h => HP.out w2 (skipB (bt s) s.size i) h hle (by omega))
      have HG := postP_gd (c := bt s) hk hu hle
      generalize postP k (bt s) s.size un (skipB (bt s) s.size i) = r at *
      generalize skipB (bt s) s.size i = q at *
      match r, HG, HQ, HR with
      | .ok (j, u), hg1, HQ, HR =>
        have HR : Hid (R = .ok (j, u ++ List.replicate m ⟨9, 0⟩)) := HR
        obtain rfl := HR.out
        have hgg := hg1.2.2.2
        have hgb := hg1.2.1
        go_wp2_with (first
            | ((go_at_call 24; (with_reducible refine (hNX.out).mono ?_); rintro e w1 ⟨rfl, hR1, hgn⟩))
            | ((go_at_call 59; (with_reducible refine (HQ.out _ hR1).mono ?_); rintro e w2 ⟨v2, u', rfl, ho2, hg2, rfl, hR2⟩)))
        have hs1 := hgn.size
        have hgx := grown_trans (grown_trans hgw hgn) hg2
        have hou := ho2.rebase (base' := w.heap.size) (fun k hk => by have := ho2.lo k hk; omega)
        go_loopw [3, 4] (fun v3 v4 w' => ∃ l : Nat, v3 = .int .i64 l ∧ l ≤ m ∧ RdR w' b k s j (-1) ∧ Own tyNd 54 w.heap.size No w' (u' ++ List.replicate (m - l) ⟨9, 0⟩) v4 ∧ w.grownBy w' (some b)) (fun v3 _ _ => (intOf v3).toNat)
        case atStart => exact ⟨m, rfl, Nat.le_refl _, hR2, by rw [Nat.sub_self, List.replicate_zero, List.append_nil]; exact hou, hgx⟩
        case round =>
          clear hR1 hR2 hgn hg2 hou ho2 hgx hs1
          obtain ⟨l, rfl, hlm, hRl, hol, hgl⟩ := hrel
          have c3 := hRl.c3
          have HRL := Lib.hid hRl
          have hsl := hgl.size
          have hbl := hRl.lt
          clear hRl
          by_cases hl0 : l = 0
          · subst hl0
            go_wp2_with fail
            go_ret
            exact ⟨_, _, rfl, hol, hgl, rfl, HRL.out⟩
          · have hd : decide ((0 : Int) < l) = true := by simp; omega
            have hLL : (u' ++ List.replicate (m - l) (⟨9, 0⟩ : Nd)).length ≤ 90000 := by rw [List.length_append, List.length_replicate]; omega
            have HOL := Lib.hid hol
            clear hol
            go_wp2_with (first
              | ((with_reducible refine gate_bi .append #[.tmp 30, .tmp 32] ?_); refine wp_append (t := tyNd) 54 w.heap.size 16 elNd No _ (u' ++ List.replicate (m - l) ⟨9, 0⟩) rfl (HOL.out.ext ((Ext.refl _).alloc _)) _ [⟨9, 0⟩] rfl Any (SlP.one _ _ (fun _ _ => ⟨rfl, (show (0 : Int) ≤ 0 ∧ (0 : Int) ≤ 255 from by decide)⟩)) (fun _ _ h => h) (by rw [List.length_singleton]; omega) (by decide) (by simp; omega) ?_; intro v6 w6 ho6 hg6 _))
            have hb6 : Below w.heap.size wr w6 := ((Below.refl _ wr).alloc (by omega) _).grown hg6 (by simp; omega) (fun k hk => HOL.out.lo k hk)
            have hR6 := (HRL.out.ext ((Ext.refl _).alloc _)).keep (hg6.block b (by simp; omega) (fun e => by have := HOL.out.lo b e.symm; omega))
            go_roundw
            case rel => exact ⟨l - 1, val_int (by omega), by omega, hR6, by rw [show m - (l - 1) = (m - l) + 1 by omega, List.replicate_succ', ← List.append_assoc]; exact ho6, grown_below hgl hb6⟩
            case measure => simp [intOf]; omega
      | .error p, hg1, HQ, HR =>
        have HR : Hid (R = .error p) := HR
        obtain rfl := HR.out
        have hpz : decide ((p : Int) < 0) = false := by simp
        go_wp2_with (first
            | ((go_at_call 24; (with_reducible refine (hNX.out).mono ?_); rintro e w1 ⟨rfl, hR1, hgn⟩))
            | ((go_at_call 59; (with_reducible refine (HQ.out _ hR1).mono ?_); rintro e w2 ⟨v2, u', rfl, ho2, hg2, hR2, hl2, hsk2⟩)))
        have hs1 := hgn.size
        have hou := ho2.rebase (base' := w.heap.size) (fun k hk => by have := ho2.lo k hk; omega)
        have hgx := grown_trans (grown_trans hgw hgn) hg2
        have HRR := Lib.hid hR2
        have c3 := hR2.c3
        clear hR2 hR1
        go_loopw [3, 4] (fun v3 v4 w' => ∃ l : Nat, v3 = .int .i64 l ∧ v4 = v2 ∧ w' = w2) (fun v3 _ _ => (intOf v3).toNat)
        case atStart => exact ⟨m, rfl, rfl, rfl⟩
        case round =>
          obtain ⟨l, rfl, rfl, rfl⟩ := hrel
          go_wp2_with fail
          all_goals
            go_ret
            exact ⟨_, u', rfl, hou, hgx, HRR.out, hl2, hsk2⟩
end Go.Proofs.Ytaijjnndnoicpaa
