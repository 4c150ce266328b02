/- Walks of package syntax: atom; and the rules, one by the other, as often as there are signs left. Conditions: the reader's cells are as RdS says. -/
import Derived.Test.YtaijjnndnoicpaaReadD
namespace Go.Eg
theorem skip_ok (c : Nat → Int) (n i : Nat) : skipB c n (skipB c n i) = skipB c n i := skip_skip c n i
end Go.Eg
namespace Go.Proofs.Ytaijjnndnoicpaa
open Go.RowKit Go.Eg

set_option maxHeartbeats 4000000 in
theorem atom_rule (k : Int) (hk : k ≤ 8) (s : ByteArray) (hs : s.size ≤ 1000) (b E f : Nat) (hE : 2 * s.size ≤ E ∧ E ≤ 50000) (un : Nat → PR) (hu : ∀ j, j ≤ s.size → Gd s.size j (un j))
    (HP : Rule 19 b k s E f un) : Rule 61 b k s E (f + 1) (atomP k (bt s) s.size un) := by
  intro w i out hSt hin hl hf
  have hge := skip_ge (bt s) s.size i
  have hle := skip_le (c := bt s) hin
  have hss := skip_skip (bt s) s.size i
  have hHP := Lib.hid (peek_st hSt hin hs)
  obtain ⟨ch, hch⟩ : ∃ ch, ch = pk (bt s) s.size i := ⟨_, rfl⟩
  have hchr := pk_range s s.size i
  rw [← hch] at hHP hchr
  have HB1 : Hid (out.length ≤ 100000) := Lib.hid (by omega)
  have hJJ := Lib.hid (fun (W : World) (h : W.cell? ⟨b, 0, none⟩ = some (.int .i64 k)) => letter_calls k ch hchr b W h)
  have HQ := Lib.hid (fun w2 (h : St w2 b k s (skipB (bt s) s.size i + 1) false out) (h1 : skipB (bt s) s.size i + 1 ≤ s.size) => HP w2 (skipB (bt s) s.size i + 1) out h h1 (by omega) (by omega))
  clear HP
  by_cases hL : isLet k ch = true
  · have hlt : skipB (bt s) s.size i < s.size := pk_lt (by rw [← hch]; have := let_range hk hL; omega)
    have he : atomP k (bt s) s.size un i = .ok (skipB (bt s) s.size i + 1, [⟨3, ch⟩]) := by unfold atomP; rw [← hch, if_pos hL]
    rw [he]
    clear he hch HQ hSt
    have hJT : Hid (∀ W : World, W.cell? ⟨b, 0, none⟩ = some (.int .i64 k) → Calls Try.prog 58 #[.pointer (some ⟨b, 0, none⟩), .int .u8 ch] W fun e w' => e = .returned (.bool true) ∧ w' = W) := Lib.hid (fun W h => by have := hJJ.out W h; rw [hL] at this; exact this)
    clear hJJ hL
    generalize skipB (bt s) s.size i = q at *
    go_enter Try.func61, Try.ntmps61
    go_wp2_with (first
            | ((go_at_call 20; (with_reducible refine (hHP.out).mono ?_); rintro e w1 ⟨rfl, hs1, hb1⟩); have hz1 := Lib.hid hs1; (obtain ⟨v1, hR1, ho1⟩ := hs1; have := (hR1).c0; have := (hR1).c2; have := (hR1).c3; have := (hR1).f2; have := (hR1).f3))
            | ((go_at_call 58; (with_reducible refine (hJT.out _ (by assumption)).mono ?_); rintro e w' ⟨rfl, hw⟩; obtain rfl := hw.symm))
            | ((go_at_call 45; (with_reducible refine (put_calls ⟨3, ch⟩ hchr k s q false out b w1 hz1.out HB1.out).mono ?_); rintro e w3 ⟨rfl, hs4, hb4⟩); have hs5 := hs4.go (x := (q : Int) + 1) (j := q + 1) (by omega); (obtain ⟨v4, hR4, ho4⟩ := hs4; have := (hR4).c0; have := (hR4).c2; have := (hR4).c3; have := (hR4).f2; have := (hR4).f3)))
    (try simp only [Exit.inBlock, Exit.then]); refine bodyPost_end (v := .tuple #[]) (by simp [results, Try.results61]) rfl ?_
    exact ⟨rfl, (hb1.trans hb4).setCell (Nat.le_refl _) _, hs5⟩
  have hJT : Hid (∀ W : World, W.cell? ⟨b, 0, none⟩ = some (.int .i64 k) → Calls Try.prog 58 #[.pointer (some ⟨b, 0, none⟩), .int .u8 ch] W fun e w' => e = .returned (.bool false) ∧ w' = W) := Lib.hid (fun W h => by have := hJJ.out W h; rw [show isLet k ch = false by simpa using hL] at this; exact this)
  clear hJJ
  by_cases h48 : ch = 48
  · have hlt : skipB (bt s) s.size i < s.size := pk_lt (by rw [← hch]; omega)
    have he : atomP k (bt s) s.size un i = .ok (skipB (bt s) s.size i + 1, [⟨1, 0⟩]) := by unfold atomP; rw [← hch, if_neg hL, if_pos h48]
    rw [he]
    clear he hch HQ hSt hL
    generalize skipB (bt s) s.size i = q at *
    obtain rfl := h48
    go_enter Try.func61, Try.ntmps61
    go_wp2_with (first
            | ((go_at_call 20; (with_reducible refine (hHP.out).mono ?_); rintro e w1 ⟨rfl, hs1, hb1⟩); have hz1 := Lib.hid hs1; (obtain ⟨v1, hR1, ho1⟩ := hs1; have := (hR1).c0; have := (hR1).c2; have := (hR1).c3; have := (hR1).f2; have := (hR1).f3))
            | ((go_at_call 58; (with_reducible refine (hJT.out _ (by assumption)).mono ?_); rintro e w' ⟨rfl, hw⟩; obtain rfl := hw.symm))
            | ((go_at_call 45; (with_reducible refine (put_calls ⟨1, 0⟩ (by decide) k s q false out b w1 hz1.out HB1.out).mono ?_); rintro e w3 ⟨rfl, hs4, hb4⟩); have hs5 := hs4.go (x := (q : Int) + 1) (j := q + 1) (by omega); (obtain ⟨v4, hR4, ho4⟩ := hs4; have := (hR4).c0; have := (hR4).c2; have := (hR4).c3; have := (hR4).f2; have := (hR4).f3)))
    (try simp only [Exit.inBlock, Exit.then]); refine bodyPost_end (v := .tuple #[]) (by simp [results, Try.results61]) rfl ?_
    exact ⟨rfl, (hb1.trans hb4).setCell (Nat.le_refl _) _, hs5⟩

  by_cases h49 : ch = 49
  · have hlt : skipB (bt s) s.size i < s.size := pk_lt (by rw [← hch]; omega)
    have he : atomP k (bt s) s.size un i = .ok (skipB (bt s) s.size i + 1, [⟨2, 0⟩]) := by unfold atomP; rw [← hch, if_neg hL, if_neg h48, if_pos h49]
    rw [he]
    clear he hch HQ hSt hL
    generalize skipB (bt s) s.size i = q at *
    obtain rfl := h49
    go_enter Try.func61, Try.ntmps61
    go_wp2_with (first
            | ((go_at_call 20; (with_reducible refine (hHP.out).mono ?_); rintro e w1 ⟨rfl, hs1, hb1⟩); have hz1 := Lib.hid hs1; (obtain ⟨v1, hR1, ho1⟩ := hs1; have := (hR1).c0; have := (hR1).c2; have := (hR1).c3; have := (hR1).f2; have := (hR1).f3))
            | ((go_at_call 58; (with_reducible refine (hJT.out _ (by assumption)).mono ?_); rintro e w' ⟨rfl, hw⟩; obtain rfl := hw.symm))
            | ((go_at_call 45; (with_reducible refine (put_calls ⟨2, 0⟩ (by decide) k s q false out b w1 hz1.out HB1.out).mono ?_); rintro e w3 ⟨rfl, hs4, hb4⟩); have hs5 := hs4.go (x := (q : Int) + 1) (j := q + 1) (by omega); (obtain ⟨v4, hR4, ho4⟩ := hs4; have := (hR4).c0; have := (hR4).c2; have := (hR4).c3; have := (hR4).f2; have := (hR4).f3)))
    (try simp only [Exit.inBlock, Exit.then]); refine bodyPost_end (v := .tuple #[]) (by simp [results, Try.results61]) rfl ?_
    exact ⟨rfl, (hb1.trans hb4).setCell (Nat.le_refl _) _, hs5⟩

  by_cases h46 : ch = 46
  · have hlt : skipB (bt s) s.size i < s.size := pk_lt (by rw [← hch]; omega)
    have he : atomP k (bt s) s.size un i = .ok (skipB (bt s) s.size i + 1, [⟨4, 0⟩]) := by unfold atomP; rw [← hch, if_neg hL, if_neg h48, if_neg h49, if_pos h46]
    rw [he]
    clear he hch HQ hSt hL
    generalize skipB (bt s) s.size i = q at *
    obtain rfl := h46
    go_enter Try.func61, Try.ntmps61
    go_wp2_with (first
            | ((go_at_call 20; (with_reducible refine (hHP.out).mono ?_); rintro e w1 ⟨rfl, hs1, hb1⟩); have hz1 := Lib.hid hs1; (obtain ⟨v1, hR1, ho1⟩ := hs1; have := (hR1).c0; have := (hR1).c2; have := (hR1).c3; have := (hR1).f2; have := (hR1).f3))
            | ((go_at_call 58; (with_reducible refine (hJT.out _ (by assumption)).mono ?_); rintro e w' ⟨rfl, hw⟩; obtain rfl := hw.symm))
            | ((go_at_call 45; (with_reducible refine (put_calls ⟨4, 0⟩ (by decide) k s q false out b w1 hz1.out HB1.out).mono ?_); rintro e w3 ⟨rfl, hs4, hb4⟩); have hs5 := hs4.go (x := (q : Int) + 1) (j := q + 1) (by omega); (obtain ⟨v4, hR4, ho4⟩ := hs4; have := (hR4).c0; have := (hR4).c2; have := (hR4).c3; have := (hR4).f2; have := (hR4).f3)))
    (try simp only [Exit.inBlock, Exit.then]); refine bodyPost_end (v := .tuple #[]) (by simp [results, Try.results61]) rfl ?_
    exact ⟨rfl, (hb1.trans hb4).setCell (Nat.le_refl _) _, hs5⟩
  have e48 : (ch == 48) = false := by simp [h48]
  have e49 : (ch == 49) = false := by simp [h49]
  have e46 : (ch == 46) = false := by simp [h46]
  by_cases h40 : ch = 40
  · have hlt : skipB (bt s) s.size i < s.size := pk_lt (by rw [← hch]; omega)
    have he : atomP k (bt s) s.size un i = (match un (skipB (bt s) s.size i + 1) with | .error p => .error p | .ok (m, t) => if pk (bt s) s.size m = 41 then .ok (skipB (bt s) s.size m + 1, t) else .error (skipB (bt s) s.size m)) := by
      unfold atomP; rw [← hch, if_neg hL, if_neg h48, if_neg h49, if_neg h46, if_pos h40]; rfl
    rw [he]
    have HG := hu (skipB (bt s) s.size i + 1) (by omega)
    clear he hch hSt hL hss e48 e49 e46 h48 h49 h46
    have HQ := Lib.hid (fun w2 h => HQ.out w2 h (by omega))
    generalize un (skipB (bt s) s.size i + 1) = r at *
    generalize skipB (bt s) s.size i = q at *
    obtain rfl := h40
    match r, HG, HQ with
    | .error p, hg1, HQ =>
      dsimp only
      go_enter Try.func61, Try.ntmps61
      go_wp2_with (first
            | ((go_at_call 20; (with_reducible refine (hHP.out).mono ?_); rintro e w1 ⟨rfl, hs1, hb1⟩); have hs5 := hs1.go (x := (q : Int) + 1) (j := q + 1) (by omega); (obtain ⟨v1, hR1, ho1⟩ := hs1; have := (hR1).c0; have := (hR1).c2; have := (hR1).c3; have := (hR1).f2; have := (hR1).f3))
            | ((go_at_call 58; (with_reducible refine (hJT.out _ (by assumption)).mono ?_); rintro e w' ⟨rfl, hw⟩; obtain rfl := hw.symm))
            | ((go_at_call 19; (with_reducible refine (HQ.out _ hs5).mono ?_); rintro e w3 ⟨rfl, hb3, hsk9, u, hs3, hl3⟩); have hz3 := Lib.hid hs3; (obtain ⟨v4, hR4, ho4⟩ := hs3; have := (hR4).c0; have := (hR4).c2; have := (hR4).c3; have := (hR4).f2; have := (hR4).f3)))
      (try simp only [Exit.inBlock, Exit.then]); refine bodyPost_end (v := .tuple #[]) (by simp [results, Try.results61]) rfl ?_
      exact ⟨rfl, (hb1.setCell (Nat.le_refl _) _).trans hb3, hsk9, u, hz3.out, hl3⟩
    | .ok (m, t), hg1, HQ =>
      have hm1 := hg1.1
      have hm2 := hg1.2.1
      have hm3 := hg1.2.2.2
      have hge2 := skip_ge (bt s) s.size m
      have hle2 := skip_le (c := bt s) hm2
      have hss2 := skip_skip (bt s) s.size m
      dsimp only
      obtain ⟨c2, hc2⟩ : ∃ ch, ch = pk (bt s) s.size m := ⟨_, rfl⟩
      have hPK := Lib.hid (fun w2 (h : St w2 b k s m false (out ++ t)) => by have := peek_st h hm2 hs; rw [← hc2] at this; exact this)
      rw [← hc2]
      have HLL : Hid ((out ++ t).length ≤ E) := Lib.hid (by simp only [List.length_append]; omega)
      by_cases h41 : c2 = 41
      · have hlt2 : skipB (bt s) s.size m < s.size := pk_lt (by rw [← hc2]; omega)
        rw [if_pos h41]
        generalize skipB (bt s) s.size m = q2 at *
        clear hc2
        obtain rfl := h41
        go_enter Try.func61, Try.ntmps61
        go_wp2_with (first
            | ((go_at_call 20; (with_reducible refine (hHP.out).mono ?_); rintro e w1 ⟨rfl, hs1, hb1⟩); have hs5 := hs1.go (x := (q : Int) + 1) (j := q + 1) (by omega); (obtain ⟨v1, hR1, ho1⟩ := hs1; have := (hR1).c0; have := (hR1).c2; have := (hR1).c3; have := (hR1).f2; have := (hR1).f3))
            | ((go_at_call 58; (with_reducible refine (hJT.out _ (by assumption)).mono ?_); rintro e w' ⟨rfl, hw⟩; obtain rfl := hw.symm))
            | ((go_at_call 19; (with_reducible refine (HQ.out _ hs5).mono ?_); rintro e w3 ⟨rfl, hb3, hs3⟩); have hs3 : St w3 b k s m false (out ++ t) := hs3; have hz3 := Lib.hid hs3; (obtain ⟨v4, hR4, ho4⟩ := hs3; have := (hR4).c0; have := (hR4).c2; have := (hR4).c3; have := (hR4).f2; have := (hR4).f3))
            | ((go_at_call 20; (with_reducible refine (hPK.out w3 hz3.out).mono ?_); rintro e w4 ⟨rfl, hs6, hb6⟩); have hs7 := hs6.go (x := (q2 : Int) + 1) (j := q2 + 1) (by omega); (obtain ⟨v6, hR6, ho6⟩ := hs6; have := (hR6).c0; have := (hR6).c2; have := (hR6).c3; have := (hR6).f2; have := (hR6).f3)))
        (try simp only [Exit.inBlock, Exit.then]); refine bodyPost_end (v := .tuple #[]) (by simp [results, Try.results61]) rfl ?_
        exact ⟨rfl, (((hb1.setCell (Nat.le_refl _) _).trans hb3).trans hb6).setCell (Nat.le_refl _) _, hs7⟩
      · rw [if_neg h41]
        generalize skipB (bt s) s.size m = q2 at *
        have e41 : (c2 != 41) = true := by simp [h41]
        clear hc2 h41
        go_enter Try.func61, Try.ntmps61
        go_wp2_with (first
            | ((go_at_call 20; (with_reducible refine (hHP.out).mono ?_); rintro e w1 ⟨rfl, hs1, hb1⟩); have hs5 := hs1.go (x := (q : Int) + 1) (j := q + 1) (by omega); (obtain ⟨v1, hR1, ho1⟩ := hs1; have := (hR1).c0; have := (hR1).c2; have := (hR1).c3; have := (hR1).f2; have := (hR1).f3))
            | ((go_at_call 58; (with_reducible refine (hJT.out _ (by assumption)).mono ?_); rintro e w' ⟨rfl, hw⟩; obtain rfl := hw.symm))
            | ((go_at_call 19; (with_reducible refine (HQ.out _ hs5).mono ?_); rintro e w3 ⟨rfl, hb3, hs3⟩); have hs3 : St w3 b k s m false (out ++ t) := hs3; have hz3 := Lib.hid hs3; (obtain ⟨v4, hR4, ho4⟩ := hs3; have := (hR4).c0; have := (hR4).c2; have := (hR4).c3; have := (hR4).f2; have := (hR4).f3))
            | ((go_at_call 20; (with_reducible refine (hPK.out w3 hz3.out).mono ?_); rintro e w4 ⟨rfl, hs6, hb6⟩); have hs7 := hs6.mark true; (obtain ⟨v6, hR6, ho6⟩ := hs6; have := (hR6).c0; have := (hR6).c2; have := (hR6).c3; have := (hR6).f2; have := (hR6).f3)))
        (try simp only [Exit.inBlock, Exit.then]); refine bodyPost_end (v := .tuple #[]) (by simp [results, Try.results61]) rfl ?_
        exact ⟨rfl, (((hb1.setCell (Nat.le_refl _) _).trans hb3).trans hb6).setCell (Nat.le_refl _) _, hss2, _, hs7, HLL.out⟩
  · have he : atomP k (bt s) s.size un i = .error (skipB (bt s) s.size i) := by
      unfold atomP; rw [← hch, if_neg hL, if_neg h48, if_neg h49, if_neg h46, if_neg h40]
    have e40 : (ch == 40) = false := by simp [h40]
    rw [he]
    clear he hch HQ hSt hL h48 h49 h46 h40
    generalize skipB (bt s) s.size i = q at *
    go_enter Try.func61, Try.ntmps61
    go_wp2_with (first
            | ((go_at_call 20; (with_reducible refine (hHP.out).mono ?_); rintro e w1 ⟨rfl, hs1, hb1⟩); have hs7 := hs1.mark true; (obtain ⟨v1, hR1, ho1⟩ := hs1; have := (hR1).c0; have := (hR1).c2; have := (hR1).c3; have := (hR1).f2; have := (hR1).f3))
            | ((go_at_call 58; (with_reducible refine (hJT.out _ (by assumption)).mono ?_); rintro e w' ⟨rfl, hw⟩; obtain rfl := hw.symm)))
    (try simp only [Exit.inBlock, Exit.then]); refine bodyPost_end (v := .tuple #[]) (by simp [results, Try.results61]) rfl ?_
    exact ⟨rfl, hb1.setCell (Nat.le_refl _) _, hss, out, hs7, by omega⟩

set_option maxHeartbeats 1000000 in
theorem concat_rule (k : Int) (hk : k ≤ 8) (s : ByteArray) (hs : s.size ≤ 1000) (b E f : Nat) (hE : E ≤ 50000) (un : Nat → PR) (hu : ∀ j, j ≤ s.size → Gd s.size j (un j))
    (HP : Rule 53 b k s E f (prefP k (bt s) s.size un)) : Rule 46 b k s (E + 2) f (conP k (bt s) s.size un) := by
  intro w i0 out hS hi0 hl hf
  have HS := Lib.hid (sev_concat k hk s hs b E f hE un hu HP w i0 out hS hi0 hl hf)
  clear HP
  go_enter Try.func46, Try.ntmps46
  go_wp2_with ((go_at_call 34; (with_reducible refine (HS.out).mono ?_); rintro e w1 ⟨rfl, hb1, ha1⟩))
  (try simp only [Exit.inBlock, Exit.then]); refine bodyPost_end (v := .tuple #[]) (by simp [results, Try.results46]) rfl ?_
  exact ⟨rfl, hb1, ha1⟩

set_option maxHeartbeats 1000000 in
theorem inter_rule (k : Int) (hk : k ≤ 8) (s : ByteArray) (hs : s.size ≤ 1000) (b E f : Nat) (hE : E ≤ 50000) (un : Nat → PR) (hu : ∀ j, j ≤ s.size → Gd s.size j (un j))
    (HP : Rule 46 b k s E f (conP k (bt s) s.size un)) : Rule 35 b k s (E + 2) f (intP k (bt s) s.size un) := by
  intro w i0 out hS hi0 hl hf
  have HS := Lib.hid (sev_inter k hk s hs b E f hE un hu HP w i0 out hS hi0 hl hf)
  clear HP
  go_enter Try.func35, Try.ntmps35
  go_wp2_with ((go_at_call 34; (with_reducible refine (HS.out).mono ?_); rintro e w1 ⟨rfl, hb1, ha1⟩))
  (try simp only [Exit.inBlock, Exit.then]); refine bodyPost_end (v := .tuple #[]) (by simp [results, Try.results35]) rfl ?_
  exact ⟨rfl, hb1, ha1⟩
set_option maxHeartbeats 1000000 in
theorem union_rule (k : Int) (hk : k ≤ 8) (s : ByteArray) (hs : s.size ≤ 1000) (b E f : Nat) (hE : E ≤ 50000)
    (HP : Rule 35 b k s E (f + 1) (intP k (bt s) s.size (unionP k (bt s) s.size f))) : Rule 19 b k s (E + 2) (f + 1) (unionP k (bt s) s.size (f + 1)) := by
  intro w i0 out hS hi0 hl hf
  have HS := Lib.hid (sev_union k hk s hs b E (f + 1) hE _ (fun j hj => unionP_gd hk f j hj) HP w i0 out hS hi0 hl hf)
  clear HP
  go_enter Try.func19, Try.ntmps19
  go_wp2_with ((go_at_call 34; (with_reducible refine (HS.out).mono ?_); rintro e w1 ⟨rfl, hb1, ha1⟩))
  (try simp only [Exit.inBlock, Exit.then]); refine bodyPost_end (v := .tuple #[]) (by simp [results, Try.results19]) rfl ?_
  exact ⟨rfl, hb1, ha1⟩
/-- The program's rules are the grammar's. -/
theorem rules (k : Int) (hk : k ≤ 8) (s : ByteArray) (hs : s.size ≤ 1000) (b : Nat) : ∀ f, f ≤ 1001 → Rule 19 b k s (2000 + 6 * f) f (unionP k (bt s) s.size f)
  | 0, _ => fun _ _ _ _ _ _ h => absurd h (Nat.not_lt_zero _)
  | f + 1, hf => by
    have ih := rules k hk s hs b f (by omega)
    have hu : ∀ j, j ≤ s.size → Gd s.size j (unionP k (bt s) s.size f j) := fun j hj => unionP_gd hk f j hj
    obtain ⟨E, hE⟩ : ∃ E, E = 2000 + 6 * f := ⟨_, rfl⟩
    rw [← hE] at ih
    rw [show 2000 + 6 * (f + 1) = E + 2 + 2 + 2 by omega]
    exact union_rule k hk s hs b _ f (by omega) (inter_rule k hk s hs b _ (f + 1) (by omega) _ hu (concat_rule k hk s hs b _ (f + 1) (by omega) _ hu (prefix_rule k hk s hs b _ (f + 1) (by omega) _ hu (post_rule k hk s hs b _ (f + 1) (by omega) _ hu (atom_rule k hk s hs b _ f (by omega) _ hu ih)))))
end Go.Proofs.Ytaijjnndnoicpaa
