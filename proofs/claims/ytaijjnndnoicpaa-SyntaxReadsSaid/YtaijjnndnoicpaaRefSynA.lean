/- Walks of the reference of chapter 4: the reader: next, broken, letter, begins; leaf, join. Conditions: the reader's cells are as RdR says. -/
import Derived.Test.YtaijjnndnoicpaaReadA
import Derived.Test.YtaijjnndnoicpaaTreeB
import Derived.Test.YtaijjnndnoicpaaKeepB
import Derived.IntWalk
namespace Go.Eg
open Go.RowKit

/-- The reference's reader in block b: its four cells. -/
structure RdR (w : World) (b : Nat) (k : Int) (s : ByteArray) (i : Nat) (bad : Int) : Prop where
  c0 : w.cell? ⟨b, 0, none⟩ = some (.int .i64 k)
  c1 : w.cell? ⟨b, 1, none⟩ = some (.string s)
  c2 : w.cell? ⟨b, 2, none⟩ = some (.int .i64 i)
  c3 : w.cell? ⟨b, 3, none⟩ = some (.int .i64 bad)
  f2 : w.frozen? ⟨b, 2, none⟩ = false
  f3 : w.frozen? ⟨b, 3, none⟩ = false
section
variable {w w' : World} {b : Nat} {k : Int} {s : ByteArray} {i : Nat} {bad : Int}
theorem RdR.lt (h : RdR w b k s i bad) : b < w.heap.size := World.block_lt_of_cell? w _ h.c0
theorem RdR.keep (h : RdR w b k s i bad) (hb : w'.heap[b]? = w.heap[b]?) : RdR w' b k s i bad := by
  have hc : ∀ o, w'.cell? ⟨b, o, none⟩ = w.cell? ⟨b, o, none⟩ := fun o => World.cell?_of_block (w := w) (a := ⟨b, o, none⟩) hb
  have hf : ∀ o, w'.frozen? ⟨b, o, none⟩ = w.frozen? ⟨b, o, none⟩ := fun o => World.frozen?_of_block (w := w) (a := ⟨b, o, none⟩) hb
  exact ⟨by rw [hc]; exact h.c0, by rw [hc]; exact h.c1, by rw [hc]; exact h.c2, by rw [hc]; exact h.c3, by rw [hf]; exact h.f2, by rw [hf]; exact h.f3⟩
theorem RdR.ext (h : RdR w b k s i bad) (he : Ext w w') : RdR w' b k s i bad := h.keep (he.block b h.lt)
theorem RdR.go (h : RdR w b k s i bad) {j : Nat} {x : Int} (hx : x = j) : RdR (w.setCell ⟨b, 2, none⟩ (.int .i64 x)) b k s j bad := by
  subst hx
  refine ⟨?_, ?_, World.cell?_setCell_same _ _ _ h.c2, ?_, ?_, ?_⟩
  · rw [World.cell?_setCell_other _ _ _ _ (by simp)]; exact h.c0
  · rw [World.cell?_setCell_other _ _ _ _ (by simp)]; exact h.c1
  · rw [World.cell?_setCell_other _ _ _ _ (by simp)]; exact h.c3
  · rw [World.frozen?_setCell]; exact h.f2
  · rw [World.frozen?_setCell]; exact h.f3
theorem RdR.mark (h : RdR w b k s i bad) (y : Int) : RdR (w.setCell ⟨b, 3, none⟩ (.int .i64 y)) b k s i y := by
  refine ⟨?_, ?_, ?_, World.cell?_setCell_same _ _ _ h.c3, ?_, ?_⟩
  · rw [World.cell?_setCell_other _ _ _ _ (by simp)]; exact h.c0
  · rw [World.cell?_setCell_other _ _ _ _ (by simp)]; exact h.c1
  · rw [World.cell?_setCell_other _ _ _ _ (by simp)]; exact h.c2
  · rw [World.frozen?_setCell]; exact h.f2
  · rw [World.frozen?_setCell]; exact h.f3
end
/-- How much a loop over blanks has ahead of it. -/
def msn (b n : Nat) (w : World) : Nat := match w.cell? ⟨b, 2, none⟩ with
  | some (.int _ x) => n - x.toNat
  | _ => 0
theorem msn_at {w : World} {b : Nat} {k : Int} {s : ByteArray} {i : Nat} {bad : Int} (n : Nat) (h : RdR w b k s i bad) : msn b n w = n - i := by simp [msn, h.c2]
end Go.Eg
namespace Go.Proofs.Ytaijjnndnoicpaa
open Go.RowKit Go.Eg

set_option maxHeartbeats 1000000 in
theorem next_calls (k : Int) (s : ByteArray) (bad : Int) (b i : Nat) (W : World) (hR : RdR W b k s i bad) (hi : i ≤ s.size) (hs : s.size ≤ 1000) :
    Calls Try.prog 24 #[.pointer (some ⟨b, 0, none⟩)] W fun e w' => e = .returned (.int .u8 (pk (bt s) s.size i)) ∧ RdR w' b k s (skipB (bt s) s.size i) bad ∧ W.grownBy w' (some b) := by
  go_enter Try.func24, Try.ntmps24
  go_wp2_with fail
  go_loopw [24] (fun _ w' => ∃ j : Nat, RdR w' b k s j bad ∧ i ≤ j ∧ j ≤ s.size ∧ skipB (bt s) s.size j = skipB (bt s) s.size i ∧ W.grownBy w' (some b)) (fun _ w' => msn b s.size w')
  case atStart => exact ⟨i, hR, Nat.le_refl _, hi, rfl, grown_refl W _⟩
  case round =>
    obtain ⟨j, hRj, hij, hjn, hsk, hg⟩ := hrel
    have hms := msn_at s.size hRj
    have h1 := hRj.c1; have h2 := hRj.c2; have hf := hRj.f2
    have hlt := hRj.lt
    have HR := Lib.hid hRj
    clear hRj hR
    by_cases hp : j < s.size
    · have hbt := bt_at s j hp
      by_cases hc : bt s j = 32
      · rw [hc] at hbt
        go_wp2_with fail
        go_quiet (fail)
        go_wp2_with fail
        go_roundw
        case rel => exact ⟨j + 1, ((HR.out.ext ((Ext.refl _).drewN _)).go (by omega)), by omega, by omega, (skip_blank hp hc).symm.trans hsk, grown_trans hg (grown_trans (((Ext.refl _).drewN _).grownBy _) (grown_set _ _ _ _))⟩
        case measure =>
          rw [msn_at s.size ((HR.out.ext ((Ext.refl _).drewN _)).go (j := j + 1) (by omega)), hms]
          omega
      · have hsk' : skipB (bt s) s.size i = j := hsk.symm.trans (skip_here (by omega))
        have hpk : pk (bt s) s.size i = bt s j := by unfold pk; rw [hsk', if_pos hp]
        have hne : (((s[j]'hp).toNat : Int) == 32) = false := by rw [hbt]; simpa using hc
        have HB := Lib.hid hbt
        clear hbt
        go_wp2_with fail
        go_quiet (fail)
        go_wp2_with fail
        go_quiet (fail)
        go_wp2_with fail
        go_quiet (fail)
        go_wp2_with fail
        go_ret
        exact ⟨by rw [hpk]; exact ret_int HB.out, by rw [hsk']; exact HR.out.ext ((((Ext.refl _).drewN _).drewN _).drewN _), grown_trans hg (((((Ext.refl _).drewN _).drewN _).drewN _).grownBy _)⟩
    · have hj : j = s.size := by omega
      have hsz : (j == s.size) = true := by simp [hj]
      have hsk' : skipB (bt s) s.size i = j := hsk.symm.trans (skip_here (by omega))
      have hpk : pk (bt s) s.size i = 0 := by unfold pk; rw [hsk', if_neg hp]
      go_wp2_with fail
      go_quiet (fail)
      go_wp2_with fail
      go_quiet (fail)
      go_wp2_with fail
      go_ret
      exact ⟨by rw [hpk]; rfl, by rw [hsk']; exact HR.out.ext (((Ext.refl _).drewN _).drewN _), grown_trans hg ((((Ext.refl _).drewN _).drewN _).grownBy _)⟩

set_option maxHeartbeats 1000000 in
theorem broken_calls (k : Int) (s : ByteArray) (b i : Nat) (W : World) (hR : RdR W b k s i (-1)) (hi : i ≤ s.size) (hs : s.size ≤ 1000) :
    Calls Try.prog 25 #[.pointer (some ⟨b, 0, none⟩)] W fun e w' => e = .returned (.slice none 0 0) ∧ RdR w' b k s (skipB (bt s) s.size i) (skipB (bt s) s.size i : Nat) ∧ W.grownBy w' (some b) := by
  have HN := Lib.hid (next_calls k s (-1) b i W hR hi hs)
  have h3 := hR.c3
  have hlt := hR.lt
  generalize skipB (bt s) s.size i = q at *
  go_enter Try.func25, Try.ntmps25
  go_wp2_with ((go_at_call 24; (with_reducible refine (HN.out).mono ?_); rintro e w1 ⟨rfl, hR1, hg1⟩); have g2 := hR1.c2; have g3 := hR1.c3; have gf := hR1.f3)
  go_ret
  exact ⟨rfl, hR1.mark _, grown_trans hg1 (grown_set _ _ _ _)⟩

set_option maxHeartbeats 400000 in
theorem rletter_calls (k : Int) (c : Int) (hc : 0 ≤ c ∧ c ≤ 255) (b : Nat) (W : World) (hR : W.cell? ⟨b, 0, none⟩ = some (.int .i64 k)) :
    Calls Try.prog 60 #[.pointer (some ⟨b, 0, none⟩), .int .u8 c] W fun e w' => e = .returned (.bool (isLet k c)) ∧ w' = W := by
  by_cases h97 : 97 ≤ c
  · have hw : IntKind.u8.wrap (c - 97) = c - 97 := IntWalk.u8_in _ (by omega)
    go_enter Try.func60, Try.ntmps60
    go_wp2_with fail
    go_ret
    exact ⟨ret_bool (by simp [isLet, h97]), rfl⟩
  · go_enter Try.func60, Try.ntmps60
    go_wp2_with fail
    go_ret
    exact ⟨ret_bool (by simp [isLet]; omega), rfl⟩

set_option maxHeartbeats 400000 in
theorem rbegins_calls (k : Int) (c : Int) (hc : 0 ≤ c ∧ c ≤ 255) (b : Nat) (W : World) (hR : W.cell? ⟨b, 0, none⟩ = some (.int .i64 k)) :
    Calls Try.prog 56 #[.pointer (some ⟨b, 0, none⟩), .int .u8 c] W fun e w' => e = .returned (.bool (begs k c)) ∧ w' = W := by
  have HL := Lib.hid (rletter_calls k c hc b W hR)
  clear hR
  obtain ⟨L, hL⟩ : ∃ L, L = isLet k c := ⟨_, rfl⟩
  rw [← hL] at HL
  have hB : begs k c = (L || c == 48 || c == 49 || c == 46 || c == 40 || c == 33) := by rw [hL]; rfl
  rw [hB]
  clear hB hL
  cases L
  · go_enter Try.func56, Try.ntmps56
    go_wp2_with ((go_at_call 60; (with_reducible refine (HL.out).mono ?_); rintro e w' ⟨rfl, hw⟩; obtain rfl := hw.symm))
    all_goals
      go_ret
      exact ⟨ret_bool (by simp_all), rfl⟩
  · go_enter Try.func56, Try.ntmps56
    go_wp2_with ((go_at_call 60; (with_reducible refine (HL.out).mono ?_); rintro e w' ⟨rfl, hw⟩; obtain rfl := hw.symm))
    all_goals
      go_ret
      exact ⟨ret_bool (by simp_all), rfl⟩

set_option maxHeartbeats 400000 in
theorem leaf_calls (n : Nd) (hn : 0 ≤ n.s ∧ n.s ≤ 255) (W : World) :
    Calls Try.prog 63 #[.int .i64 n.k, .int .u8 n.s] W fun e w' => ∃ v, e = .returned v ∧ Own tyNd 54 W.heap.size No w' [n] v ∧ Ext W w' := by
  go_enter Try.func63, Try.ntmps63
  go_wp2_with fail
  go_ret
  refine ⟨_, rfl, ?_, (Ext.refl W).alloc _⟩
  have h := Own.made (t := tyNd) (w := W) (e := 54) (base := W.heap.size) (B := No) (m := 1) #[.int .i64 n.k, .int .u8 n.s] n rfl (fun _ _ => ⟨rfl, hn⟩) (Nat.le_refl _) (by decide)
  have hm : madeCells #[Value.int .i64 n.k, .int .u8 n.s] (1 * tyNd.sz) = #[Value.int .i64 n.k, .int .u8 n.s] := by
    rw [show 1 * tyNd.sz = 2 from rfl]
    apply Array.ext'
    simp [madeCells]
    rfl
  rw [hm] at h
  exact h

set_option maxHeartbeats 1000000 in
theorem join_calls (x y : List Nd) (kd : Int) (u v : Value) (W : World) (hx : Rd tyNd W x u) (hy : Rd tyNd W y v) (lx : x.length ≤ 100000000) (ly : y.length ≤ 100000000) :
    Calls Try.prog 41 #[u, v, .int .i64 kd] W fun e w' => ∃ v', e = .returned v' ∧ Own tyNd 54 W.heap.size No w' (x ++ y ++ [⟨kd, 0⟩]) v' ∧ Ext W w' := by
  obtain ⟨A1, c1, rfl, h11, h12⟩ := hx.shape
  obtain ⟨A2, c2, rfl, h21, h22⟩ := hy.shape
  have hE : Ext W (W.alloc (.cells #[] 54)) := (Ext.refl W).alloc _
  go_enter Try.func41, Try.ntmps41
  go_wp2_with (first
    | ((with_reducible refine gate_bi .append #[.tmp 8, .tmp 9] ?_); refine wp_append (t := tyNd) 54 W.heap.size 16 elNd No (.slice (some ⟨W.heap.size, 0, none⟩) 0 0) [] rfl (Own.empty tyNd #[.int .i64 0, .int .u8 0] ⟨0, 0⟩ rfl (fun _ _ => ⟨rfl, by decide⟩) (Nat.le_refl _)) _ x rfl Any (hx.ext hE) (fun _ _ h => h) (by simp; omega) (by decide) (by simp) ?_; intro v3 w3 ho3 hg3 _; have hx3 : Ext W w3 := Ext.grown hE hg3 (by simp [Value.ownBlock]); (rw [List.nil_append] at ho3); (obtain ⟨A3, c3, rfl, h31, h32⟩ := ho3.shape))
    | ((with_reducible refine gate_bi .append #[.tmp 10, .tmp 11] ?_); refine wp_append (t := tyNd) 54 W.heap.size 16 elNd No _ x rfl ho3 _ y rfl Any (hy.ext hx3) (fun _ _ h => h) (by omega) (by decide) hx3.le ?_; intro v4 w4 ho4 hg4 _; have hx4 : Ext W w4 := Ext.grown hx3 hg4 ho3.lo; (obtain ⟨A4, c4, rfl, h41, h42⟩ := ho4.shape); (rw [List.length_append] at ho4 h41))
    | ((with_reducible refine gate_bi .append #[.tmp 13, .tmp 16] ?_); refine wp_append (t := tyNd) 54 W.heap.size 16 elNd No _ (x ++ y) rfl (ho4.ext ((Ext.refl _).alloc _)) _ [⟨kd, 0⟩] rfl Any (SlP.one _ _ (fun _ _ => ⟨rfl, (show (0 : Int) ≤ 0 ∧ (0 : Int) ≤ 255 from by decide)⟩)) (fun _ _ h => h) (by simp; omega) (by decide) (by have := hx4.le; simp; omega) ?_; intro v5 w5 ho5 hg5 _; have hx5 : Ext W w5 := Ext.grown (hx4.alloc _) hg5 ho4.lo))
  go_ret
  exact ⟨v5, rfl, ho5, hx5⟩
end Go.Proofs.Ytaijjnndnoicpaa
