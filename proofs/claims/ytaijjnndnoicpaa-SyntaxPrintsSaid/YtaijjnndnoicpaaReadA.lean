/- Walks of package syntax: the reader: peek comes to the next sign (the blanks are passed over), letter and begins to their tests. Conditions: the reader's cells are as RdS says. -/
import Derived.Test.YtaijjnndnoicpaaProg
import Derived.Test.YtaijjnndnoicpaaEgLib
import Derived.Test.YtaijjnndnoicpaaSynG
import Derived.Test.YtaijjnndnoicpaaTreeA
import Derived.Lib.Hide
import Derived.Lib.OthersKept
import Derived.Laws.RangeAny
import Derived.LoopTactic
import Derived.StillTailTactics
import Derived.Deep.QuietTactic
import Derived.BigQuiet
namespace Go.Eg
open Go.RowKit Go.Lib

/-- The reader in block b: its five cells. -/
structure RdS (w : World) (b : Nat) (k : Int) (s : ByteArray) (i : Nat) (bad : Bool) (v : Value) : Prop where
  c0 : w.cell? ⟨b, 0, none⟩ = some (.int .i64 k)
  c1 : w.cell? ⟨b, 1, none⟩ = some (.string s)
  c2 : w.cell? ⟨b, 2, none⟩ = some (.int .i64 i)
  c3 : w.cell? ⟨b, 3, none⟩ = some (.bool bad)
  c4 : w.cell? ⟨b, 4, none⟩ = some v
  f2 : w.frozen? ⟨b, 2, none⟩ = false
  f3 : w.frozen? ⟨b, 3, none⟩ = false
  f4 : w.frozen? ⟨b, 4, none⟩ = false
theorem RdS.lt {w : World} {b : Nat} {k : Int} {s : ByteArray} {i : Nat} {bad : Bool} {v : Value} (h : RdS w b k s i bad v) : b < w.heap.size := World.block_lt_of_cell? w _ h.c0
/-- What does not turn the reader's block. -/
theorem RdS.keep {w w' : World} {b : Nat} {k : Int} {s : ByteArray} {i : Nat} {bad : Bool} {v : Value} (h : RdS w b k s i bad v) (hb : w'.heap[b]? = w.heap[b]?) : RdS w' b k s i bad v := by
  have hc : ∀ o, w'.cell? ⟨b, o, none⟩ = w.cell? ⟨b, o, none⟩ := fun o => World.cell?_of_block (w := w) (a := ⟨b, o, none⟩) hb
  have hf : ∀ o, w'.frozen? ⟨b, o, none⟩ = w.frozen? ⟨b, o, none⟩ := fun o => World.frozen?_of_block (w := w) (a := ⟨b, o, none⟩) hb
  exact ⟨by rw [hc]; exact h.c0, by rw [hc]; exact h.c1, by rw [hc]; exact h.c2, by rw [hc]; exact h.c3, by rw [hc]; exact h.c4, by rw [hf]; exact h.f2, by rw [hf]; exact h.f3, by rw [hf]; exact h.f4⟩
theorem RdS.ext {w w' : World} {b : Nat} {k : Int} {s : ByteArray} {i : Nat} {bad : Bool} {v : Value} (h : RdS w b k s i bad v) (he : Ext w w') : RdS w' b k s i bad v := h.keep (he.block b h.lt)
theorem grown_refl (w : World) (r : Option Nat) : w.grownBy w r := (Ext.refl w).grownBy r
theorem grown_trans {a b c : World} {r : Option Nat} (h : a.grownBy b r) (k : b.grownBy c r) : a.grownBy c r :=
  ⟨k.os.trans h.os, k.tape.trans h.tape, k.output.trans h.output, Nat.le_trans h.size k.size, fun i hi hr => (k.block i (Nat.lt_of_lt_of_le hi h.size) hr).trans (h.block i hi hr)⟩
theorem grown_set (w : World) (b o : Nat) (u : Value) : w.grownBy (w.setCell ⟨b, o, none⟩ u) (some b) :=
  ⟨rfl, rfl, rfl, by simp, fun i _ hr => Below.heap_setCell w ⟨b, o, none⟩ u i (fun e => hr (by rw [e]))⟩
theorem grown_iter (w : World) {q b : Nat} (hq : w.heap.size ≤ q) (W : World) (h : w.grownBy W (some b)) (s : ByteArray) (p : Nat) : w.grownBy (W.iterAt q s p) (some b) :=
  ⟨h.os, h.tape, h.output, by rw [iterAt_size]; exact h.size, fun i hi hr => (iterAt_other W q i s p (by omega)).trans (h.block i hi hr)⟩

section
variable {w : World} {b : Nat} {k : Int} {s : ByteArray} {i : Nat} {bad : Bool} {v : Value}
theorem RdS.go (h : RdS w b k s i bad v) {j : Nat} {x : Int} (hx : x = j) : RdS (w.setCell ⟨b, 2, none⟩ (.int .i64 x)) b k s j bad v := by
  subst hx
  refine ⟨?_, ?_, World.cell?_setCell_same _ _ _ h.c2, ?_, ?_, ?_, ?_, ?_⟩
  · rw [World.cell?_setCell_other _ _ _ _ (by simp)]; exact h.c0
  · rw [World.cell?_setCell_other _ _ _ _ (by simp)]; exact h.c1
  · rw [World.cell?_setCell_other _ _ _ _ (by simp)]; exact h.c3
  · rw [World.cell?_setCell_other _ _ _ _ (by simp)]; exact h.c4
  · rw [World.frozen?_setCell]; exact h.f2
  · rw [World.frozen?_setCell]; exact h.f3
  · rw [World.frozen?_setCell]; exact h.f4
theorem RdS.mark (h : RdS w b k s i bad v) (y : Bool) : RdS (w.setCell ⟨b, 3, none⟩ (.bool y)) b k s i y v := by
  refine ⟨?_, ?_, ?_, World.cell?_setCell_same _ _ _ h.c3, ?_, ?_, ?_, ?_⟩
  · rw [World.cell?_setCell_other _ _ _ _ (by simp)]; exact h.c0
  · rw [World.cell?_setCell_other _ _ _ _ (by simp)]; exact h.c1
  · rw [World.cell?_setCell_other _ _ _ _ (by simp)]; exact h.c2
  · rw [World.cell?_setCell_other _ _ _ _ (by simp)]; exact h.c4
  · rw [World.frozen?_setCell]; exact h.f2
  · rw [World.frozen?_setCell]; exact h.f3
  · rw [World.frozen?_setCell]; exact h.f4
theorem RdS.lay (h : RdS w b k s i bad v) (u : Value) : RdS (w.setCell ⟨b, 4, none⟩ u) b k s i bad u := by
  refine ⟨?_, ?_, ?_, ?_, World.cell?_setCell_same _ _ _ h.c4, ?_, ?_, ?_⟩
  · rw [World.cell?_setCell_other _ _ _ _ (by simp)]; exact h.c0
  · rw [World.cell?_setCell_other _ _ _ _ (by simp)]; exact h.c1
  · rw [World.cell?_setCell_other _ _ _ _ (by simp)]; exact h.c2
  · rw [World.cell?_setCell_other _ _ _ _ (by simp)]; exact h.c3
  · rw [World.frozen?_setCell]; exact h.f2
  · rw [World.frozen?_setCell]; exact h.f3
  · rw [World.frozen?_setCell]; exact h.f4
end
theorem dec_blank {t : ByteArray} {p : Nat} (h : p < t.size) : ((t[p]'h).toNat = 32 → Utf8.decode t p = (32, 1)) ∧ ((t[p]'h).toNat ≠ 32 → (Utf8.decode t p).1 ≠ 32) := by
  constructor
  · intro e
    rw [decode_ascii t p h (by omega), e]
  · intro e
    by_cases ha : (t[p]'h).toNat < 128
    · rw [decode_ascii t p h ha]; exact e
    · have := (decode_high t p h (by omega)).1; omega
theorem cut_size (s : ByteArray) (i : Nat) : (s.extract i s.size).size = s.size - i := by simp
theorem cut_at (s : ByteArray) (i p : Nat) (h : p < (s.extract i s.size).size) : (((s.extract i s.size)[p]'h).toNat : Int) = bt s (i + p) := by
  have h' : i + p < s.size := by rw [cut_size] at h; omega
  rw [← bt_at s (i + p) h']
  simp [ByteArray.getElem_extract]
end Go.Eg
namespace Go.Proofs.Ytaijjnndnoicpaa
open Go.RowKit Go.Eg

set_option maxHeartbeats 1000000 in
theorem peek_calls (k : Int) (s : ByteArray) (bad : Bool) (v : Value) (b i : Nat) (W : World) (hR : RdS W b k s i bad v) (hi : i ≤ s.size) (hs : s.size ≤ 1000) :
    Calls Try.prog 20 #[.pointer (some ⟨b, 0, none⟩)] W fun e w' => e = .returned (.int .u8 (pk (bt s) s.size i)) ∧ RdS w' b k s (skipB (bt s) s.size i) bad v ∧ W.grownBy w' (some b) := by
  have h1 := hR.c1; have h2 := hR.c2; have hlt := hR.lt
  go_enter Try.func20, Try.ntmps20
  go_wp2_with fail
  go_still_tail 9, (by kernel_rfl)
  change wpList _ _ _ _ _ W.drew
  generalize HW : W.drew = w2
  have hb2 : W.grownBy w2 (some b) := by rw [← HW]; exact (Ext.refl W).drew.grownBy _
  have hR2 : RdS w2 b k s i bad v := hR.keep (by rw [← HW]; rfl)
  have hz : w2.heap.size = W.heap.size := by rw [← HW]; rfl
  clear HW
  go_wp2_with fail
  go_loopw [4] (fun _ w' => ∃ j : Nat, RdS w' b k s j bad v ∧ i ≤ j ∧ j ≤ s.size ∧ skipB (bt s) s.size j = skipB (bt s) s.size i ∧ w'.heap[W.heap.size]? = some (.stringIter (s.extract i s.size) (j - i)) ∧ W.grownBy w' (some b)) (fun _ w' => s.size - w'.iterPos W.heap.size)
  case atStart =>
    exact ⟨i, hR2.ext ((Ext.refl w2).alloc _), Nat.le_refl _, hi, rfl, by rw [Nat.sub_self, ← hz]; exact World.iter_heap w2 _ 0, grown_trans hb2 (World.grownBy_alloc _ _ _)⟩
  case round =>
    obtain ⟨j, hRj, hij, hjn, hsk, hit, hg⟩ := hrel
    have h1 := hRj.c1; have h2 := hRj.c2; have hf := hRj.f2
    by_cases hp : j < s.size
    · have hp' : j - i < (s.extract i s.size).size := by rw [cut_size]; omega
      have hnx : ∀ ty, (Instr.next (.pointer (some ⟨W.heap.size, 0, none⟩)) true ty).run Try.prog wr = _ := fun ty => Lib.run_next_any_at wr W.heap.size _ _ ty hit hp'
      have hdec := dec_blank hp'
      by_cases hc : bt s j = 32
      · have hd := hdec.1 (by have := cut_at s i (j - i) hp'; rw [show i + (j - i) = j by omega, hc] at this; omega)
        have hnx' := fun ty => (hnx ty).trans (by rw [hd])
        have hR' := hRj.keep (w' := wr.iterAt W.heap.size (s.extract i s.size) (j - i + 1)) (Lib.iterAt_other _ _ _ _ _ (by omega))
        have hg' := grown_iter W (Nat.le_refl _) wr hg (s.extract i s.size) (j - i + 1)
        have hit' := Lib.iterAt_heap wr W.heap.size _ _ (j - i + 1) hit
        have hmm : wr.iterPos W.heap.size = j - i := by simp [World.iterPos, hit]
        clear hnx hit hg hRj h1 h2 hf
        generalize wr.iterAt W.heap.size (s.extract i s.size) (j - i + 1) = wi at *
        have h1 := hR'.c1; have h2 := hR'.c2; have hf := hR'.f2
        go_wp2_with fail
        go_roundw
        case rel =>
          exact ⟨j + 1, hR'.go (by omega), by omega, by omega, (skip_blank hp hc).symm.trans hsk, by rw [Below.heap_setCell _ _ _ _ (Nat.ne_of_gt hlt), show j + 1 - i = j - i + 1 by omega]; exact hit', grown_trans hg' (grown_set _ _ _ _)⟩
        case measure =>
          simp only [World.iterPos] at hmm ⊢
          rw [Below.heap_setCell _ _ _ _ (Nat.ne_of_gt hlt), hit']
          rw [hmm]
          simp
          omega
      · have hd := hdec.2 (fun e => hc (by have := cut_at s i (j - i) hp'; rw [show i + (j - i) = j by omega] at this; omega))
        have hwid := Lib.iterAt_other
        generalize Utf8.decode (s.extract i s.size) (j - i) = d at hnx hd
        have hsk' : skipB (bt s) s.size i = j := hsk.symm.trans (skip_here (by omega))
        have hpk : pk (bt s) s.size i = bt s j := by unfold pk; rw [hsk', if_pos hp]
        have hne : ((d.1 : Int) != 32) = true := by simp; omega
        have hR' := hRj.keep (w' := wr.iterAt W.heap.size (s.extract i s.size) (j - i + d.2)) (Lib.iterAt_other _ _ _ _ _ (by omega))
        have hg' := grown_iter W (Nat.le_refl _) wr hg (s.extract i s.size) (j - i + d.2)
        generalize wr.iterAt W.heap.size (s.extract i s.size) (j - i + d.2) = wi at *
        have h1 := hR'.c1; have h2 := hR'.c2
        go_wp2_with fail
        go_quiet (fail)
        go_wp2_with fail
        go_quiet (fail)
        go_wp2_with fail
        go_ret
        exact ⟨by rw [hpk]; exact ret_int (bt_at s j hp), by rw [hsk']; exact hR'.ext (((Ext.refl _).drewN _).drewN _), grown_trans hg' ((((Ext.refl _).drewN _).drewN _).grownBy _)⟩
    · have hnx : ∀ ty, (Instr.next (.pointer (some ⟨W.heap.size, 0, none⟩)) true ty).run Try.prog wr = _ := fun ty => Lib.run_next_end_at wr W.heap.size _ _ ty hit (by rw [cut_size]; omega)
      have hj : j = s.size := by omega
      have hsz : (j == s.size) = true := by simp [hj]
      go_wp2_with fail
      go_quiet (fail)
      go_wp2_with fail
      go_ret
      have hsk' : skipB (bt s) s.size i = j := hsk.symm.trans (skip_here (by omega))
      have hpk : pk (bt s) s.size i = 0 := by unfold pk; rw [hsk', if_neg hp]
      exact ⟨by rw [hpk]; rfl, by rw [hsk']; exact hRj.ext ((Ext.refl _).drewN _), grown_trans hg (((Ext.refl _).drewN _).grownBy _)⟩
end Go.Proofs.Ytaijjnndnoicpaa
