/- The walk of syntax.Parse: it answers as the grammar does. Conditions: none. -/
import Derived.Test.YtaijjnndnoicpaaReadE
import Derived.Test.YtaijjnndnoicpaaTreeE
import Derived.Test.YtaijjnndnoicpaaSynS
namespace Go.Proofs.Ytaijjnndnoicpaa
open Go.RowKit Go.Eg

/-- What Parse answers: a row of its own, a place, an error. -/
def ParseAns (k : Int) (s : ByteArray) (w : World) (e : Ending) (w' : World) : Prop :=
  ∃ v, e = .returned (.tuple #[v, .int .i64 ((parseP k (bt s) s.size).2.1 : Nat), .int .i64 (parseP k (bt s) s.size).1]) ∧ Own tyNd 54 w.heap.size No w' (parseP k (bt s) s.size).2.2 v ∧ Ext w w'

set_option maxHeartbeats 4000000 in
theorem Parse_calls (k : Int) (s : ByteArray) (w : World) : Calls Try.prog 9 #[.int .i64 k, .string s] w (ParseAns k s w) := by
  unfold ParseAns
  by_cases hk : k < 1 ∨ 8 < k
  · rw [show parseP k (bt s) s.size = (20, 0, []) by unfold parseP; rw [if_pos hk]]
    go_enter Try.func9, Try.ntmps9
    by_cases h1 : k < 1
    · go_wp2_with fail
      go_ret3
      exact ⟨_, rfl, Own.nil _ _ _ _ _, Ext.refl _⟩
    · have h8 : 8 < k := by omega
      go_wp2_with fail
      go_ret3
      exact ⟨_, rfl, Own.nil _ _ _ _ _, Ext.refl _⟩
  have hk1 : ¬ k < 1 := by omega
  have hk8 : ¬ 8 < k := by omega
  by_cases hn : 1000 < s.size
  · rw [show parseP k (bt s) s.size = (40, 0, []) by unfold parseP; rw [if_neg hk, if_pos hn]]
    have hn' : decide ((1000 : Int) < s.size) = true := by simp; omega
    go_enter Try.func9, Try.ntmps9
    go_wp2_with fail
    go_ret3
    exact ⟨_, rfl, Own.nil _ _ _ _ _, Ext.refl _⟩
  have hn' : decide ((1000 : Int) < s.size) = false := by simp; omega
  have HR := Lib.hid (fun w2 h => rules k (by omega) s (by omega) w.heap.size (s.size + 1) (by omega) w2 0 [] h (Nat.zero_le _) (Nat.zero_le _) (by omega))
  have HG := unionP_gd (c := bt s) (n := s.size) (by omega : k ≤ 8) (s.size + 1) 0 (Nat.zero_le _)
  have he : parseP k (bt s) s.size = match unionP k (bt s) s.size (s.size + 1) 0 with
    | .error p => (41, p, [])
    | .ok (m, t) => if skipB (bt s) s.size m < s.size then (41, skipB (bt s) s.size m, []) else if 128 < (tr t).dep everyK then (31, 0, []) else (0, 0, t) := by
    unfold parseP; rw [if_neg hk, if_neg hn]; rfl
  rw [he]
  clear he
  generalize unionP k (bt s) s.size (s.size + 1) 0 = r at *
  have HS0 : Hid (∀ W : World, W = w.alloc (.cells #[.int .i64 k, .string s, .int .i64 0, .bool false, .slice none 0 0] 42) → St W w.heap.size k s 0 false []) := Lib.hid (fun W hW => ⟨_, ⟨by subst hW; simp, by subst hW; simp, by subst hW; simp, by subst hW; simp, by subst hW; simp, by subst hW; simp, by subst hW; simp, by subst hW; simp⟩, Own.nil _ _ _ _ _⟩)
  have hx0 : Ext w (w.alloc (.cells #[.int .i64 k, .string s, .int .i64 0, .bool false, .slice none 0 0] 42)) := (Ext.refl w).alloc _
  match r, HG, HR with
  | .error p, hg, HR =>
    have hPK := Lib.hid (fun w2 u (hsk : skipB (bt s) s.size p = p) (h : St w2 w.heap.size k s p true u) => by have := peek_st h hg.2 (by omega); rw [hsk] at this; exact this)
    go_enter Try.func9, Try.ntmps9
    go_wp2_with (first
      | ((go_at_call 19; (with_reducible refine (HR.out _ (HS0.out _ rfl)).mono ?_); rintro e w1 ⟨rfl, hb1, hsk, u, hs1, hl1⟩); have hz1 := Lib.hid (hPK.out _ _ hsk hs1))
      | ((go_at_call 20; (with_reducible refine (hz1.out).mono ?_); rintro e w2 ⟨rfl, hs2, hb2⟩); (obtain ⟨v4, hR4, ho4⟩ := hs2; have := (hR4).c0; have := (hR4).c2; have := (hR4).c3; have := (hR4).f2; have := (hR4).f3)))
    go_quiet (fail)
    go_wp2_with fail
    go_ret3
    exact ⟨_, rfl, Own.nil _ _ _ _ _, Ext.drewN (w := w) (Below.trans hx0 (hb1.trans hb2)) _⟩
  | .ok (m, t), hg, HR =>
    have hm := hg.2.1
    have hle := skip_le (c := bt s) hm
    have hPK := Lib.hid (fun w2 (h : St w2 w.heap.size k s m false t) => peek_st h hm (by omega))
    have HR : Hid (∀ w2, St w2 w.heap.size k s 0 false [] → Calls Try.prog 19 #[.pointer (some ⟨w.heap.size, 0, none⟩)] w2 fun e w' => e = .returned (.tuple #[]) ∧ Below w.heap.size w2 w' ∧ St w' w.heap.size k s m false t) := HR
    dsimp only
    by_cases hlt : skipB (bt s) s.size m < s.size
    · rw [if_pos hlt]
      generalize skipB (bt s) s.size m = q at *
      have hlt' : decide ((q : Int) < s.size) = true := by simp; omega
      go_enter Try.func9, Try.ntmps9
      go_wp2_with (first
        | ((go_at_call 19; (with_reducible refine (HR.out _ (HS0.out _ rfl)).mono ?_); rintro e w1 ⟨rfl, hb1, hs1⟩); have hz1 := Lib.hid (hPK.out _ hs1))
        | ((go_at_call 20; (with_reducible refine (hz1.out).mono ?_); rintro e w2 ⟨rfl, hs2, hb2⟩); (obtain ⟨v4, hR4, ho4⟩ := hs2; have := (hR4).c0; have := (hR4).c2; have := (hR4).c3; have := (hR4).f2; have := (hR4).f3)))
      go_quiet (fail)
      go_wp2_with fail
      go_ret3
      exact ⟨_, rfl, Own.nil _ _ _ _ _, Ext.drewN (w := w) (Below.trans hx0 (hb1.trans hb2)) _⟩
    · rw [if_neg hlt]
      obtain ⟨x, hxw, hxf⟩ := hg.2.2.1
      have hlen := hg.2.2.2
      generalize skipB (bt s) s.size m = q at *
      obtain rfl : q = s.size := by omega
      have herr : errW t = 0 := by rw [← hxf]; exact errW_flat hxw (by rw [hxf]; omega)
      have hdp : depF everyK t = (tr t).dep everyK := if_pos herr
      have hD := Lib.hid (fun v w2 (h : Own tyNd 54 (w.heap.size + 1) No w2 t v) => by have := Depth_calls t v w2 h.rd; rw [herr, hdp] at this; exact this)
      clear hdp herr hxw hxf x hlt hg
      generalize (tr t).dep everyK = d at *
      by_cases hd : 128 < d
      · rw [if_pos hd]
        go_enter Try.func9, Try.ntmps9
        go_wp2_with (first
          | ((go_at_call 19; (with_reducible refine (HR.out _ (HS0.out _ rfl)).mono ?_); rintro e w1 ⟨rfl, hb1, hs1⟩); have hz1 := Lib.hid (hPK.out _ hs1))
          | ((go_at_call 20; (with_reducible refine (hz1.out).mono ?_); rintro e w2 ⟨rfl, hs2, hb2⟩); (obtain ⟨v4, hR4, ho4⟩ := hs2); have := hR4.c4; have := hR4.c2; have := hR4.c3)
          | ((go_at_call 21; (with_reducible refine (hD.out _ _ ho4).mono ?_); rintro e w3 ⟨rfl, h3⟩)))
        go_ret3
        exact ⟨_, rfl, Own.nil _ _ _ _ _, Below.trans hx0 ((hb1.trans hb2).trans (h3.below.mono (by have := hR4.lt; omega)))⟩
      · rw [if_neg hd]
        go_enter Try.func9, Try.ntmps9
        go_wp2_with (first
          | ((go_at_call 19; (with_reducible refine (HR.out _ (HS0.out _ rfl)).mono ?_); rintro e w1 ⟨rfl, hb1, hs1⟩); have hz1 := Lib.hid (hPK.out _ hs1))
          | ((go_at_call 20; (with_reducible refine (hz1.out).mono ?_); rintro e w2 ⟨rfl, hs2, hb2⟩); (obtain ⟨v4, hR4, ho4⟩ := hs2); have := hR4.c2; have := hR4.c3; have := hR4.c4)
          | ((go_at_call 21; (with_reducible refine (hD.out _ _ ho4).mono ?_); rintro e w3 ⟨rfl, h3⟩); have hR6 := hR4.ext h3; have := hR6.c4))
        go_ret3
        exact ⟨_, rfl, (ho4.ext h3).rebase (fun j hj => by have := ho4.lo j hj; omega), Below.trans hx0 ((hb1.trans hb2).trans (h3.below.mono (by have := hR4.lt; omega)))⟩
end Go.Proofs.Ytaijjnndnoicpaa
