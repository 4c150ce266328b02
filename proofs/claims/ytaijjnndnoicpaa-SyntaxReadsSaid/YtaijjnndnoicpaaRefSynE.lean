/- The walk of the reference's Parse: it answers as the grammar does. Conditions: none. -/
import Derived.Test.YtaijjnndnoicpaaRefSynD
import Derived.Test.YtaijjnndnoicpaaLawSynB
namespace Go.Proofs.Ytaijjnndnoicpaa
open Go.RowKit Go.Eg

set_option maxHeartbeats 400000 in
theorem letters_calls (k : Int) (w : World) : Calls Try.prog 22 #[.int .i64 k] w fun e w' => e = .returned (.int .i64 (if k < 1 ∨ 8 < k then 20 else 0)) ∧ w' = w := by
  by_cases h1 : k < 1
  · rw [if_pos (.inl h1)]
    go_enter Try.func22, Try.ntmps22
    go_wp2_with fail
    go_ret
    exact ⟨rfl, rfl⟩
  · by_cases h8 : 8 < k
    · rw [if_pos (.inr h8)]
      go_enter Try.func22, Try.ntmps22
      go_wp2_with fail
      go_ret
      exact ⟨rfl, rfl⟩
    · rw [if_neg (by omega)]
      go_enter Try.func22, Try.ntmps22
      go_wp2_with fail
      go_ret
      exact ⟨rfl, rfl⟩

set_option maxHeartbeats 4000000 in
theorem rParse_calls (k : Int) (s : ByteArray) (w : World) : Calls Try.prog 10 #[.int .i64 k, .string s] w (ParseAns k s w) := by
  unfold ParseAns
  have HLT := Lib.hid (fun W => letters_calls k W)
  by_cases hk : k < 1 ∨ 8 < k
  · rw [show parseP k (bt s) s.size = (20, 0, []) by unfold parseP; rw [if_pos hk]]
    rw [if_pos hk] at HLT
    clear hk
    go_enter Try.func10, Try.ntmps10
    go_wp2_with ((go_at_call 22; (with_reducible refine (HLT.out _).mono ?_); rintro e w' ⟨rfl, hw⟩; obtain rfl := hw.symm))
    go_ret3
    exact ⟨_, rfl, Own.nil _ _ _ _ _, Ext.refl _⟩
  rw [if_neg hk] at HLT
  by_cases hn : 1000 < s.size
  · rw [show parseP k (bt s) s.size = (40, 0, []) by unfold parseP; rw [if_neg hk, if_pos hn]]
    have hn' : decide ((1000 : Int) < s.size) = true := by simp; omega
    clear hk
    go_enter Try.func10, Try.ntmps10
    go_wp2_with ((go_at_call 22; (with_reducible refine (HLT.out _).mono ?_); rintro e w' ⟨rfl, hw⟩; obtain rfl := hw.symm))
    go_ret3
    exact ⟨_, rfl, Own.nil _ _ _ _ _, Ext.refl _⟩
  have hn' : decide ((1000 : Int) < s.size) = false := by simp; omega
  have hs : s.size ≤ 1000 := by omega
  have HR := Lib.hid (fun w2 h => rrules k (by omega) s hs w.heap.size (s.size + 1) (by omega) w2 0 h (Nat.zero_le _) (by omega))
  have HG := unionP_gd (c := bt s) (n := s.size) (by omega : k ≤ 8) (s.size + 1) 0 (Nat.zero_le _)
  have he : parseP k (bt s) s.size = match unionP k (bt s) s.size (s.size + 1) 0 with
    | .error p => (41, p, [])
    | .ok (m, t) => if skipB (bt s) s.size m < s.size then (41, skipB (bt s) s.size m, []) else if 128 < (tr t).dep everyK then (31, 0, []) else (0, 0, t) := by
    unfold parseP; rw [if_neg hk, if_neg hn]; rfl
  rw [he]
  clear he hk
  generalize unionP k (bt s) s.size (s.size + 1) 0 = r at *
  have HS0 : Hid (∀ W : World, W = w.alloc (.cells #[.int .i64 k, .string s, .int .i64 0, .int .i64 (-1)] 49) → RdR W w.heap.size k s 0 (-1)) := Lib.hid (fun W hW => ⟨by subst hW; simp, by subst hW; simp, by subst hW; simp, by subst hW; simp, by subst hW; simp, by subst hW; simp⟩)
  have hx0 : Ext w (w.alloc (.cells #[.int .i64 k, .string s, .int .i64 0, .int .i64 (-1)] 49)) := (Ext.refl w).alloc _
  have hz0 : (w.alloc (.cells #[.int .i64 k, .string s, .int .i64 0, .int .i64 (-1)] 49)).heap.size = w.heap.size + 1 := by simp
  have low : ∀ {a c : World}, Ext w a → a.grownBy c (some w.heap.size) → Ext w c := fun h g => Below.grown h g h.le (fun j hj => by have := Option.some.inj hj; omega)
  match r, HG, HR with
  | .error p, hg, HR =>
    have hpz : decide ((p : Int) < 0) = false := by simp
    have hpz' : decide ((0 : Int) ≤ p) = true := by simp
    go_enter Try.func10, Try.ntmps10
    go_wp2_with (first
      | ((go_at_call 22; (with_reducible refine (HLT.out _).mono ?_); rintro e w' ⟨rfl, hw⟩; obtain rfl := hw.symm))
      | ((go_at_call 23; (with_reducible refine (HR.out _ (HS0.out _ rfl)).mono ?_); rintro e w1 ⟨v1, u, rfl, ho1, hg1, hR1, hl1, hsk1⟩); have c3 := hR1.c3))
    go_quiet (fail)
    go_wp2_with fail
    go_ret3
    exact ⟨_, rfl, Own.nil _ _ _ _ _, Ext.drewN (low hx0 hg1) _⟩
  | .ok (m, t), hg, HR =>
    have hm := hg.2.1
    have hle := skip_le (c := bt s) hm
    have hss := skip_skip (bt s) s.size m
    have HNX := Lib.hid (fun w2 (h : RdR w2 w.heap.size k s m (-1)) => next_calls k s (-1) w.heap.size m w2 h hm hs)
    have HBR := Lib.hid (fun w2 (h : RdR w2 w.heap.size k s (skipB (bt s) s.size m) (-1)) => by have := broken_calls k s w.heap.size (skipB (bt s) s.size m) w2 h hle hs; rw [hss] at this; exact this)
    dsimp only
    by_cases hlt : skipB (bt s) s.size m < s.size
    · rw [if_pos hlt]
      obtain ⟨ch, hch⟩ : ∃ ch, ch = pk (bt s) s.size m := ⟨_, rfl⟩
      rw [← hch] at HNX
      clear hch
      generalize skipB (bt s) s.size m = q at *
      have hlt' : decide ((q : Int) < s.size) = true := by simp; omega
      have hqz' : decide ((0 : Int) ≤ q) = true := by simp
      by_cases hc0 : ch = 0
      · subst hc0
        go_enter Try.func10, Try.ntmps10
        go_wp2_with (first
          | ((go_at_call 22; (with_reducible refine (HLT.out _).mono ?_); rintro e w' ⟨rfl, hw⟩; obtain rfl := hw.symm))
          | ((go_at_call 23; (with_reducible refine (HR.out _ (HS0.out _ rfl)).mono ?_); rintro e w1 ⟨v1, u, rfl, ho1, hg1, rfl, hR1⟩); have c3 := hR1.c3)
          | ((go_at_call 24; (with_reducible refine (HNX.out _ hR1).mono ?_); rintro e w2 ⟨rfl, hR2, hg2⟩); have d2 := hR2.c2; have d3 := hR2.c3)
          | ((go_at_call 25; (with_reducible refine (HBR.out _ hR2).mono ?_); rintro e w3 ⟨rfl, hR3, hg3⟩); have e3 := hR3.c3))
        go_quiet (fail)
        go_wp2_with fail
        go_ret3
        exact ⟨_, rfl, Own.nil _ _ _ _ _, Ext.drewN (low (low (low hx0 hg1) hg2) hg3) _⟩
      · have hc0' : (ch != 0) = true := by simp [hc0]
        clear hc0
        go_enter Try.func10, Try.ntmps10
        go_wp2_with (first
          | ((go_at_call 22; (with_reducible refine (HLT.out _).mono ?_); rintro e w' ⟨rfl, hw⟩; obtain rfl := hw.symm))
          | ((go_at_call 23; (with_reducible refine (HR.out _ (HS0.out _ rfl)).mono ?_); rintro e w1 ⟨v1, u, rfl, ho1, hg1, rfl, hR1⟩); have c3 := hR1.c3)
          | ((go_at_call 24; (with_reducible refine (HNX.out _ hR1).mono ?_); rintro e w2 ⟨rfl, hR2, hg2⟩); have d2 := hR2.c2; have d3 := hR2.c3)
          | ((go_at_call 25; (with_reducible refine (HBR.out _ hR2).mono ?_); rintro e w3 ⟨rfl, hR3, hg3⟩); have e3 := hR3.c3))
        go_quiet (fail)
        go_wp2_with fail
        go_ret3
        exact ⟨_, rfl, Own.nil _ _ _ _ _, Ext.drewN (low (low (low hx0 hg1) hg2) hg3) _⟩
    · rw [if_neg hlt]
      have hpk0 : pk (bt s) s.size m = 0 := by unfold pk; rw [if_neg hlt]
      rw [hpk0] at HNX
      obtain ⟨x, hxw, hxf⟩ := hg.2.2.1
      have hlen := hg.2.2.2
      clear HBR hpk0
      generalize skipB (bt s) s.size m = q at *
      obtain rfl : q = s.size := by omega
      have herr : errW t = 0 := by rw [← hxf]; exact errW_flat hxw (by rw [hxf]; omega)
      have hdp : depF everyK t = (tr t).dep everyK := if_pos herr
      have hD := Lib.hid (fun v w2 (h : Rd tyNd w2 t v) => by have := rDepth_calls t v w2 h; rw [herr, hdp] at this; exact this)
      clear hdp herr hxw hxf x hlt hg
      generalize (tr t).dep everyK = d at *
      by_cases hd : 128 < d
      · rw [if_pos hd]
        go_enter Try.func10, Try.ntmps10
        go_wp2_with (first
          | ((go_at_call 22; (with_reducible refine (HLT.out _).mono ?_); rintro e w' ⟨rfl, hw⟩; obtain rfl := hw.symm))
          | ((go_at_call 23; (with_reducible refine (HR.out _ (HS0.out _ rfl)).mono ?_); rintro e w1 ⟨v1, u, rfl, ho1, hg1, rfl, hR1⟩); have c3 := hR1.c3)
          | ((go_at_call 24; (with_reducible refine (HNX.out _ hR1).mono ?_); rintro e w2 ⟨rfl, hR2, hg2⟩); have d2 := hR2.c2; have d3 := hR2.c3; have ho2 := ownGrow ho1 hg2 (by rw [hz0]; omega))
          | ((go_at_call 26; (with_reducible refine (hD.out _ _ ho2.rd).mono ?_); rintro e w3 ⟨rfl, h3⟩)))
        go_ret3
        exact ⟨_, rfl, Own.nil _ _ _ _ _, (low (low hx0 hg1) hg2).trans h3⟩
      · rw [if_neg hd]
        go_enter Try.func10, Try.ntmps10
        go_wp2_with (first
          | ((go_at_call 22; (with_reducible refine (HLT.out _).mono ?_); rintro e w' ⟨rfl, hw⟩; obtain rfl := hw.symm))
          | ((go_at_call 23; (with_reducible refine (HR.out _ (HS0.out _ rfl)).mono ?_); rintro e w1 ⟨v1, u, rfl, ho1, hg1, rfl, hR1⟩); have c3 := hR1.c3)
          | ((go_at_call 24; (with_reducible refine (HNX.out _ hR1).mono ?_); rintro e w2 ⟨rfl, hR2, hg2⟩); have d2 := hR2.c2; have d3 := hR2.c3; have ho2 := ownGrow ho1 hg2 (by rw [hz0]; omega))
          | ((go_at_call 26; (with_reducible refine (hD.out _ _ ho2.rd).mono ?_); rintro e w3 ⟨rfl, h3⟩)))
        go_ret3
        exact ⟨_, rfl, (ho2.ext h3).rebase (fun j hj => by have := ho2.lo j hj; omega), (low (low hx0 hg1) hg2).trans h3⟩
end Go.Proofs.Ytaijjnndnoicpaa
