/- Walks of the reference of chapter 4: atom; the rules, one by the other; Parse. Conditions: the reader's cells are as RdR says. -/
import Derived.Test.YtaijjnndnoicpaaRefSynC
import Derived.Test.YtaijjnndnoicpaaRefC
import Derived.Test.YtaijjnndnoicpaaReadF
namespace Go.Eg
theorem atom_broken {k : Int} {c : Nat → Int} {n : Nat} {un : Nat → PR} {i : Nat} (h : begs k (pk c n i) = false ∨ pk c n i = 33) : atomP k c n un i = .error (skipB c n i) := by
  unfold atomP
  generalize pk c n i = x at *
  have h1 : isLet k x = false ∧ x ≠ 48 ∧ x ≠ 49 ∧ x ≠ 46 ∧ x ≠ 40 := by
    rcases h with h | h
    · simp [begs] at h
      simp [h]
    · subst h
      simp [isLet]
  obtain ⟨a, b, d, e, f⟩ := h1
  rw [if_neg (by simp [a]), if_neg b, if_neg d, if_neg e, if_neg f]
end Go.Eg
namespace Go.Proofs.Ytaijjnndnoicpaa
open Go.RowKit Go.Eg

set_option maxHeartbeats 4000000 in
theorem ratom_rule (k : Int) (hk : k ≤ 8) (s : ByteArray) (hs : s.size ≤ 1000) (b E f : Nat) (un : Nat → PR) (hu : ∀ j, j ≤ s.size → Gd s.size j (un j))
    (HP : RuleR 23 b k s E f un) : RuleR 62 b k s E (f + 1) (atomP k (bt s) s.size un) := by
  intro w i hRi hin hf
  have hbw := hRi.lt
  have hge := skip_ge (bt s) s.size i
  have hle := skip_le (c := bt s) hin
  have hss := skip_skip (bt s) s.size i
  have hNX := Lib.hid (next_calls k s (-1) b i w hRi hin hs)
  obtain ⟨ch, hch⟩ : ∃ ch, ch = pk (bt s) s.size i := ⟨_, rfl⟩
  have hchr := pk_range s s.size i
  rw [← hch] at hNX hchr
  have hJJ := Lib.hid (fun (W : World) (h : W.cell? ⟨b, 0, none⟩ = some (.int .i64 k)) => rbegins_calls k ch hchr b W h)
  have HQ := Lib.hid (fun w2 (h : RdR w2 b k s (skipB (bt s) s.size i + 1) (-1)) (h1 : skipB (bt s) s.size i + 1 ≤ s.size) => HP w2 (skipB (bt s) s.size i + 1) h h1 (by omega))
  clear HP
  by_cases hB : begs k ch = false ∨ ch = 33
  · have he := atom_broken (k := k) (c := bt s) (n := s.size) (un := un) (i := i) (by rw [← hch]; exact hB)
    have HBR := Lib.hid (fun w2 (h : RdR w2 b k s (skipB (bt s) s.size i) (-1)) => by have := broken_calls k s b (skipB (bt s) s.size i) w2 h hle hs; rw [hss] at this; exact this)
    rw [he]
    clear he hch HQ
    generalize skipB (bt s) s.size i = q at *
    by_cases hb : begs k ch = false
    · have hJF : Hid (∀ W : World, W.cell? ⟨b, 0, none⟩ = some (.int .i64 k) → Calls Try.prog 56 #[.pointer (some ⟨b, 0, none⟩), .int .u8 ch] W fun e w' => e = .returned (.bool false) ∧ w' = W) := Lib.hid (fun W h => by have := hJJ.out W h; rw [hb] at this; exact this)
      clear hJJ hB hb
      go_enter Try.func62, Try.ntmps62
      go_wp2_with (first
        | ((go_at_call 24; (with_reducible refine (hNX.out).mono ?_); rintro e w1 ⟨rfl, hR1, hg1⟩); have c0 := hR1.c0)
        | ((go_at_call 56; (with_reducible refine (hJF.out _ (by assumption)).mono ?_); rintro e w' ⟨rfl, hw⟩; obtain rfl := hw.symm))
        | ((go_at_call 25; (with_reducible refine (HBR.out _ hR1).mono ?_); rintro e w2 ⟨rfl, hR2, hg2⟩)))
      go_ret
      exact ⟨_, [], rfl, Own.nil _ _ _ _ _, grown_trans hg1 hg2, hR2, Nat.zero_le _, hss⟩
    · have hb' : begs k ch = true := by simpa using hb
      have h33 : ch = 33 := by rcases hB with h | h; exact absurd h hb; exact h
      have hJF : Hid (∀ W : World, W.cell? ⟨b, 0, none⟩ = some (.int .i64 k) → Calls Try.prog 56 #[.pointer (some ⟨b, 0, none⟩), .int .u8 ch] W fun e w' => e = .returned (.bool true) ∧ w' = W) := Lib.hid (fun W h => by have := hJJ.out W h; rw [hb'] at this; exact this)
      clear hJJ hB hb hb'
      obtain rfl := h33
      go_enter Try.func62, Try.ntmps62
      go_wp2_with (first
        | ((go_at_call 24; (with_reducible refine (hNX.out).mono ?_); rintro e w1 ⟨rfl, hR1, hg1⟩); have c0 := hR1.c0)
        | ((go_at_call 56; (with_reducible refine (hJF.out _ (by assumption)).mono ?_); rintro e w' ⟨rfl, hw⟩; obtain rfl := hw.symm))
        | ((go_at_call 25; (with_reducible refine (HBR.out _ hR1).mono ?_); rintro e w2 ⟨rfl, hR2, hg2⟩)))
      go_ret
      exact ⟨_, [], rfl, Own.nil _ _ _ _ _, grown_trans hg1 hg2, hR2, Nat.zero_le _, hss⟩
  have hb' : begs k ch = true := by cases h : begs k ch; exact absurd (.inl h) hB; rfl
  have h33 : ch ≠ 33 := fun h => hB (.inr h)
  have e33 : (ch == 33) = false := by simp [h33]
  have hJT : Hid (∀ W : World, W.cell? ⟨b, 0, none⟩ = some (.int .i64 k) → Calls Try.prog 56 #[.pointer (some ⟨b, 0, none⟩), .int .u8 ch] W fun e w' => e = .returned (.bool true) ∧ w' = W) := Lib.hid (fun W h => by have := hJJ.out W h; rw [hb'] at this; exact this)
  clear hJJ hB
  have hlt : skipB (bt s) s.size i < s.size := pk_lt (by rw [← hch]; rintro rfl; exact begs_zero k hb')
  by_cases h48 : ch = 48
  · have he : atomP k (bt s) s.size un i = .ok (skipB (bt s) s.size i + 1, [⟨1, 0⟩]) := by
      unfold atomP; rw [← hch, if_neg (show ¬ isLet k ch = true by rw [h48]; simp [isLet])]
      skip
      rw [if_pos h48]
    rw [he]
    clear he hch HQ hb' h33 e33
    generalize skipB (bt s) s.size i = q at *
    obtain rfl := h48
    go_enter Try.func62, Try.ntmps62
    go_wp2_with (first
        | ((go_at_call 24; (with_reducible refine (hNX.out).mono ?_); rintro e w1 ⟨rfl, hR1, hg1⟩); have c0 := hR1.c0; have c2 := hR1.c2; have f2 := hR1.f2; have hR2 := hR1.go (x := (q : Int) + 1) (j := q + 1) (by omega))
        | ((go_at_call 56; (with_reducible refine (hJT.out _ (by assumption)).mono ?_); rintro e w' ⟨rfl, hw⟩; obtain rfl := hw.symm))
        | ((go_at_call 63; (with_reducible refine (leaf_calls ⟨1, 0⟩ (by decide) _).mono ?_); rintro e w3 ⟨v3, rfl, ho3, h3⟩)))
    go_ret
    exact ⟨_, _, rfl, ho3.rebase (fun j hj => Nat.le_trans hg1.size (by have := ho3.lo j hj; simpa using this)), grown_trans (grown_trans hg1 (grown_set _ _ _ _)) (h3.grownBy _), rfl, hR2.ext h3⟩

  by_cases h49 : ch = 49
  · have he : atomP k (bt s) s.size un i = .ok (skipB (bt s) s.size i + 1, [⟨2, 0⟩]) := by
      unfold atomP; rw [← hch, if_neg (show ¬ isLet k ch = true by rw [h49]; simp [isLet])]
      rw [if_neg h48]
      rw [if_pos h49]
    rw [he]
    clear he hch HQ hb' h33 e33
    generalize skipB (bt s) s.size i = q at *
    obtain rfl := h49
    go_enter Try.func62, Try.ntmps62
    go_wp2_with (first
        | ((go_at_call 24; (with_reducible refine (hNX.out).mono ?_); rintro e w1 ⟨rfl, hR1, hg1⟩); have c0 := hR1.c0; have c2 := hR1.c2; have f2 := hR1.f2; have hR2 := hR1.go (x := (q : Int) + 1) (j := q + 1) (by omega))
        | ((go_at_call 56; (with_reducible refine (hJT.out _ (by assumption)).mono ?_); rintro e w' ⟨rfl, hw⟩; obtain rfl := hw.symm))
        | ((go_at_call 63; (with_reducible refine (leaf_calls ⟨2, 0⟩ (by decide) _).mono ?_); rintro e w3 ⟨v3, rfl, ho3, h3⟩)))
    go_ret
    exact ⟨_, _, rfl, ho3.rebase (fun j hj => Nat.le_trans hg1.size (by have := ho3.lo j hj; simpa using this)), grown_trans (grown_trans hg1 (grown_set _ _ _ _)) (h3.grownBy _), rfl, hR2.ext h3⟩

  by_cases h46 : ch = 46
  · have he : atomP k (bt s) s.size un i = .ok (skipB (bt s) s.size i + 1, [⟨4, 0⟩]) := by
      unfold atomP; rw [← hch, if_neg (show ¬ isLet k ch = true by rw [h46]; simp [isLet])]
      rw [if_neg h48, if_neg h49]
      rw [if_pos h46]
    rw [he]
    clear he hch HQ hb' h33 e33
    generalize skipB (bt s) s.size i = q at *
    obtain rfl := h46
    go_enter Try.func62, Try.ntmps62
    go_wp2_with (first
        | ((go_at_call 24; (with_reducible refine (hNX.out).mono ?_); rintro e w1 ⟨rfl, hR1, hg1⟩); have c0 := hR1.c0; have c2 := hR1.c2; have f2 := hR1.f2; have hR2 := hR1.go (x := (q : Int) + 1) (j := q + 1) (by omega))
        | ((go_at_call 56; (with_reducible refine (hJT.out _ (by assumption)).mono ?_); rintro e w' ⟨rfl, hw⟩; obtain rfl := hw.symm))
        | ((go_at_call 63; (with_reducible refine (leaf_calls ⟨4, 0⟩ (by decide) _).mono ?_); rintro e w3 ⟨v3, rfl, ho3, h3⟩)))
    go_ret
    exact ⟨_, _, rfl, ho3.rebase (fun j hj => Nat.le_trans hg1.size (by have := ho3.lo j hj; simpa using this)), grown_trans (grown_trans hg1 (grown_set _ _ _ _)) (h3.grownBy _), rfl, hR2.ext h3⟩
  have e48 : (ch == 48) = false := by simp [h48]
  have e49 : (ch == 49) = false := by simp [h49]
  have e46 : (ch == 46) = false := by simp [h46]
  by_cases h40 : ch = 40
  · have he : atomP k (bt s) s.size un i = (match un (skipB (bt s) s.size i + 1) with | .error p => .error p | .ok (m, t) => if pk (bt s) s.size m = 41 then .ok (skipB (bt s) s.size m + 1, t) else .error (skipB (bt s) s.size m)) := by
      unfold atomP; rw [← hch, if_neg (show ¬ isLet k ch = true by rw [h40]; simp [isLet]), if_neg h48, if_neg h49, if_neg h46, if_pos h40]; rfl
    rw [he]
    have HG := hu (skipB (bt s) s.size i + 1) (by omega)
    have HQ := Lib.hid (fun w2 h => HQ.out w2 h (by omega))
    clear he hch hss e48 e49 e46 h48 h49 h46 hb' h33 e33
    generalize un (skipB (bt s) s.size i + 1) = r at *
    generalize skipB (bt s) s.size i = q at *
    obtain rfl := h40
    match r, HG, HQ with
    | .error p, hg1, HQ =>
      dsimp only
      have hpz : decide ((p : Int) < 0) = false := by simp
      go_enter Try.func62, Try.ntmps62
      go_wp2_with (first
        | ((go_at_call 24; (with_reducible refine (hNX.out).mono ?_); rintro e w1 ⟨rfl, hR1, hg1⟩); have c0 := hR1.c0; have c2 := hR1.c2; have f2 := hR1.f2; have hR2 := hR1.go (x := (q : Int) + 1) (j := q + 1) (by omega))
        | ((go_at_call 56; (with_reducible refine (hJT.out _ (by assumption)).mono ?_); rintro e w' ⟨rfl, hw⟩; obtain rfl := hw.symm))
        | ((go_at_call 23; (with_reducible refine (HQ.out _ hR2).mono ?_); rintro e w3 ⟨v3, u, rfl, ho3, hg3, hR3, hl3, hsk3⟩); have c3 := hR3.c3))
      go_ret
      exact ⟨_, u, rfl, ho3.rebase (fun j hj => Nat.le_trans hg1.size (by have := ho3.lo j hj; simpa using this)), grown_trans (grown_trans hg1 (grown_set _ _ _ _)) hg3, hR3, hl3, hsk3⟩
    | .ok (m, t), hgd, HQ =>
      have hm1 := hgd.1
      have hm2 := hgd.2.1
      have hle2 := skip_le (c := bt s) hm2
      have hss2 := skip_skip (bt s) s.size m
      dsimp only
      obtain ⟨c2, hc2⟩ : ∃ ch, ch = pk (bt s) s.size m := ⟨_, rfl⟩
      have hPK := Lib.hid (fun w2 (h : RdR w2 b k s m (-1)) => by have := next_calls k s (-1) b m w2 h hm2 hs; rw [← hc2] at this; exact this)
      rw [← hc2]
      by_cases h41 : c2 = 41
      · have hlt2 : skipB (bt s) s.size m < s.size := pk_lt (by rw [← hc2]; omega)
        rw [if_pos h41]
        generalize skipB (bt s) s.size m = q2 at *
        clear hc2
        obtain rfl := h41
        go_enter Try.func62, Try.ntmps62
        go_wp2_with (first
          | ((go_at_call 24; (with_reducible refine (hNX.out).mono ?_); rintro e w1 ⟨rfl, hR1, hg1⟩); have c0 := hR1.c0; have c2 := hR1.c2; have f2 := hR1.f2; have hR2 := hR1.go (x := (q : Int) + 1) (j := q + 1) (by omega))
          | ((go_at_call 56; (with_reducible refine (hJT.out _ (by assumption)).mono ?_); rintro e w' ⟨rfl, hw⟩; obtain rfl := hw.symm))
          | ((go_at_call 23; (with_reducible refine (HQ.out _ hR2).mono ?_); rintro e w3 ⟨v3, u, rfl, ho3, hg3, rfl, hR3⟩); have c3 := hR3.c3)
          | ((go_at_call 24; (with_reducible refine (hPK.out _ hR3).mono ?_); rintro e w4 ⟨rfl, hR4, hg4⟩); have c42 := hR4.c2; have c43 := hR4.c3; have f42 := hR4.f2; have hR5 := hR4.go (x := (q2 : Int) + 1) (j := q2 + 1) (by omega)))
        go_ret
        have hb1 : w.heap.size ≤ (w1.setCell ⟨b, 2, none⟩ (.int .i64 ((q : Int) + 1))).heap.size := by have := hg1.size; simpa using this
        have ho4 := ownGrow (ownGrow (ho3.rebase (base' := w.heap.size) (fun j hj => Nat.le_trans hb1 (ho3.lo j hj))) hg4 hbw) (grown_set w4 b 2 (.int .i64 ((q2 : Int) + 1))) hbw
        exact ⟨_, u, rfl, ho4, grown_trans (grown_trans (grown_trans (grown_trans hg1 (grown_set _ _ _ _)) hg3) hg4) (grown_set _ _ _ _), rfl, hR5⟩
      · rw [if_neg h41]
        have HBR := Lib.hid (fun w2 (h : RdR w2 b k s (skipB (bt s) s.size m) (-1)) => by have := broken_calls k s b (skipB (bt s) s.size m) w2 h hle2 hs; rw [hss2] at this; exact this)
        generalize skipB (bt s) s.size m = q2 at *
        have e41 : (c2 != 41) = true := by simp [h41]
        clear hc2 h41
        go_enter Try.func62, Try.ntmps62
        go_wp2_with (first
          | ((go_at_call 24; (with_reducible refine (hNX.out).mono ?_); rintro e w1 ⟨rfl, hR1, hg1⟩); have c0 := hR1.c0; have c2 := hR1.c2; have f2 := hR1.f2; have hR2 := hR1.go (x := (q : Int) + 1) (j := q + 1) (by omega))
          | ((go_at_call 56; (with_reducible refine (hJT.out _ (by assumption)).mono ?_); rintro e w' ⟨rfl, hw⟩; obtain rfl := hw.symm))
          | ((go_at_call 23; (with_reducible refine (HQ.out _ hR2).mono ?_); rintro e w3 ⟨v3, u, rfl, ho3, hg3, rfl, hR3⟩); have c3 := hR3.c3)
          | ((go_at_call 24; (with_reducible refine (hPK.out _ hR3).mono ?_); rintro e w4 ⟨rfl, hR4, hg4⟩); have c42 := hR4.c2; have c43 := hR4.c3; have f42 := hR4.f2)
          | ((go_at_call 25; (with_reducible refine (HBR.out _ hR4).mono ?_); rintro e w5 ⟨rfl, hR5, hg5⟩)))
        go_ret
        exact ⟨_, [], rfl, Own.nil _ _ _ _ _, grown_trans (grown_trans (grown_trans (grown_trans hg1 (grown_set _ _ _ _)) hg3) hg4) hg5, hR5, Nat.zero_le _, hss2⟩
  · have hL : isLet k ch = true := by
      have := hb'
      simp [begs, h48, h49, h46, h40, h33] at this
      exact this
    have he : atomP k (bt s) s.size un i = .ok (skipB (bt s) s.size i + 1, [⟨3, ch⟩]) := by unfold atomP; rw [← hch, if_pos hL]
    have e40 : (ch == 40) = false := by simp [h40]
    rw [he]
    clear he hch HQ hb' h33 h48 h49 h46 h40 hL
    generalize skipB (bt s) s.size i = q at *
    go_enter Try.func62, Try.ntmps62
    go_wp2_with (first
        | ((go_at_call 24; (with_reducible refine (hNX.out).mono ?_); rintro e w1 ⟨rfl, hR1, hg1⟩); have c0 := hR1.c0; have c2 := hR1.c2; have f2 := hR1.f2; have hR2 := hR1.go (x := (q : Int) + 1) (j := q + 1) (by omega))
        | ((go_at_call 56; (with_reducible refine (hJT.out _ (by assumption)).mono ?_); rintro e w' ⟨rfl, hw⟩; obtain rfl := hw.symm))
        | ((go_at_call 63; (with_reducible refine (leaf_calls ⟨3, ch⟩ hchr _).mono ?_); rintro e w3 ⟨v3, rfl, ho3, h3⟩)))
    go_ret
    exact ⟨_, _, rfl, ho3.rebase (fun j hj => Nat.le_trans hg1.size (by have := ho3.lo j hj; simpa using this)), grown_trans (grown_trans hg1 (grown_set _ _ _ _)) (h3.grownBy _), rfl, hR2.ext h3⟩

/-- The reference's rules are the grammar's. -/
theorem rrules (k : Int) (hk : k ≤ 8) (s : ByteArray) (hs : s.size ≤ 1000) (b : Nat) : ∀ f, f ≤ 1001 → RuleR 23 b k s (2000 + 6006 * f) f (unionP k (bt s) s.size f)
  | 0, _ => fun _ _ _ _ h => absurd h (Nat.not_lt_zero _)
  | f + 1, hf => by
    have ih := rrules k hk s hs b f (by omega)
    have hu : ∀ j, j ≤ s.size → Gd s.size j (unionP k (bt s) s.size f j) := fun j hj => unionP_gd hk f j hj
    obtain ⟨E, hE⟩ : ∃ E, E = 2000 + 6006 * f := ⟨_, rfl⟩
    rw [← hE] at ih
    rw [show 2000 + 6006 * (f + 1) = E + 2002 + 2002 + 2002 by omega]
    have h1 := rprefix_rule k hk s hs b E (f + 1) _ hu (rpost_rule k hk s hs b E (f + 1) _ hu (ratom_rule k hk s hs b E f _ hu ih))
    have h2 : RuleR 50 b k s (E + 2002) (f + 1) (conP k (bt s) s.size (unionP k (bt s) s.size f)) := fun w i hR hi hf => rsev_concat k hk s hs b E (f + 1) (by omega) _ hu h1 w i hR hi hf
    have h3 : RuleR 40 b k s (E + 2002 + 2002) (f + 1) (intP k (bt s) s.size (unionP k (bt s) s.size f)) := fun w i hR hi hf => rsev_inter k hk s hs b (E + 2002) (f + 1) (by omega) _ hu h2 w i hR hi hf
    exact fun w i hR hi hf => rsev_union k hk s hs b (E + 2002 + 2002) (f + 1) (by omega) _ hu h3 w i hR hi hf
end Go.Proofs.Ytaijjnndnoicpaa
