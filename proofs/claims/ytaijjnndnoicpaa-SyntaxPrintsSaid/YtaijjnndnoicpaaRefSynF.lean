/- Walks of the reference of chapter 4: rank, at; plain: what a cut text tells. Conditions: texts that memory bears. -/
import Derived.Test.YtaijjnndnoicpaaPrintM
import Derived.Test.YtaijjnndnoicpaaPrintC
namespace Go.Eg
/-- How long the texts of a stack are, one behind the other. -/
def tot (S : List T) : Nat := (S.map (fun x => x.pr.length)).sum
theorem tot_cons (x : T) (S : List T) : tot (x :: S) = x.pr.length + tot S := by simp [tot]
theorem wrap_ge (b : Nat) (l : List Int) (L : Nat) : l.length ≤ (wrapP b l L).length := by rw [wrap_len]; split <;> omega
theorem tot_push {n : Nd} {S S' : List T} (h : Pushed n S S') : tot S ≤ tot S' := by
  cases h with
  | leaf S h => rw [tot_cons]; omega
  | un a S h =>
    rw [tot_cons, tot_cons, T.pr_un]
    have h1 := wrap_ge a.bd a.pr 5
    have h2 := wrap_ge a.bd a.pr 4
    split
    · simp only [List.length_append]; omega
    · simp only [List.length_cons]; omega
  | bin a b S h =>
    rw [tot_cons, tot_cons, tot_cons, T.pr_bin]
    have h1 := wrap_ge a.bd a.pr (bnd n.k)
    have h2 := wrap_ge b.bd b.pr (bnd n.k + 1)
    simp only [List.length_append]
    omega
theorem tot_mem {x : T} {S : List T} (h : x ∈ S) : x.pr.length ≤ tot S := by
  induction S with
  | nil => cases h
  | cons y S ih =>
    rw [tot_cons]
    rcases List.mem_cons.1 h with rfl | h
    · omega
    · have := ih h; omega
/-- No piece's text is longer than the tree's. -/
theorem tot_tree {t : List Nd} : ∀ (d i : Nat) (S : List T), d = t.length - i → i ≤ t.length → Eg.St t i S → tot S ≤ (tr t).pr.length
  | 0, i, S, hd, hi, h => by
    obtain rfl : i = t.length := by omega
    obtain ⟨x, rfl, hw, hf⟩ := h.done
    rw [← hf, tr_flat hw, tot_cons]
    simp [tot]
  | d + 1, i, S, hd, hi, h => by
    obtain ⟨_, _, hp, h'⟩ := h.next (by omega)
    exact Nat.le_trans (tot_push hp) (tot_tree d (i + 1) _ (by omega) (by omega) h')
theorem piece_le {t : List Nd} {i : Nat} {S : List T} (h : Eg.St t i S) (hi : i ≤ t.length) {x : T} (hx : x ∈ S) : x.pr.length ≤ (tr t).pr.length :=
  Nat.le_trans (tot_mem hx) (tot_tree _ i S rfl hi h)
/-- The reference's pieces of a stack of trees. -/
def pcr (S : List T) : List (ByteArray × Int) := S.reverse.map (fun x => (txt x.pr, x.root.k))
theorem pcr_len (S : List T) : (pcr S).length = S.length := by simp [pcr]
theorem pcr_push (x : T) (S : List T) : pcr (x :: S) = pcr S ++ [(txt x.pr, x.root.k)] := by simp [pcr]
theorem pcr_top (x : T) (S : List T) : (pcr (x :: S))[S.length]? = some (txt x.pr, x.root.k) := by
  rw [pcr_push, List.getElem?_append_right (by rw [pcr_len]; exact Nat.le_refl _), pcr_len, Nat.sub_self]; rfl
theorem pcr_under (x y : T) (S : List T) : (pcr (x :: y :: S))[S.length]? = some (txt y.pr, y.root.k) := by
  rw [pcr_push, List.getElem?_append_left (by rw [pcr_len]; simp)]; exact pcr_top y S
theorem pcr_pop1 (x : T) (S : List T) : (pcr (x :: S)).take S.length = pcr S := by
  rw [pcr_push, List.take_append_of_le_length (by rw [pcr_len]; exact Nat.le_refl _), List.take_of_length_le (by rw [pcr_len]; exact Nat.le_refl _)]
theorem pcr_pop2 (x y : T) (S : List T) : (pcr (x :: y :: S)).take S.length = pcr S := by
  rw [pcr_push, List.take_append_of_le_length (by rw [pcr_len]; simp), pcr_pop1]
end Go.Eg
namespace Go.Proofs.Ytaijjnndnoicpaa
open Go.RowKit Go.Eg

set_option maxHeartbeats 400000 in
theorem rank_calls (k : Int) (w : World) : Calls Try.prog 33 #[.int .i64 k] w fun e w' => e = .returned (.int .i64 ((bnd k : Int) - 1)) ∧ w' = w := by
  unfold bnd
  by_cases h5 : k = 5
  · skip
    rw [if_pos h5]
    subst h5
    go_enter Try.func33, Try.ntmps33
    go_wp2_with fail
    go_ret
    exact ⟨rfl, rfl⟩

  by_cases h6 : k = 6
  · rw [if_neg h5]
    rw [if_pos h6]
    subst h6
    go_enter Try.func33, Try.ntmps33
    go_wp2_with fail
    go_ret
    exact ⟨rfl, rfl⟩

  by_cases h7 : k = 7
  · rw [if_neg h5, if_neg h6]
    rw [if_pos h7]
    subst h7
    go_enter Try.func33, Try.ntmps33
    go_wp2_with fail
    go_ret
    exact ⟨rfl, rfl⟩

  by_cases h9 : k = 9
  · rw [if_neg h5, if_neg h6, if_neg h7]
    rw [if_pos h9]
    subst h9
    go_enter Try.func33, Try.ntmps33
    go_wp2_with fail
    go_ret
    exact ⟨rfl, rfl⟩

  by_cases h8 : k = 8
  · rw [if_neg h5, if_neg h6, if_neg h7, if_neg h9]
    rw [if_pos h8]
    subst h8
    go_enter Try.func33, Try.ntmps33
    go_wp2_with fail
    go_ret
    exact ⟨rfl, rfl⟩
  rw [if_neg h5, if_neg h6, if_neg h7, if_neg h9, if_neg h8]
  have e5 : (k == 5) = false := by simp [h5]
  have e6 : (k == 6) = false := by simp [h6]
  have e7 : (k == 7) = false := by simp [h7]
  have e8 : (k == 8) = false := by simp [h8]
  have e9 : (k == 9) = false := by simp [h9]
  clear h5 h6 h7 h8 h9
  go_enter Try.func33, Try.ntmps33
  go_wp2_with fail
  go_ret
  exact ⟨rfl, rfl⟩

set_option maxHeartbeats 400000 in
theorem rat_calls (t : ByteArray) (k : Int) (least : Nat) (ht : t.size ≤ 1000000) (w : World) :
    Calls Try.prog 32 #[.agg #[.string t, .int .i64 k], .int .i64 least] w fun e w' => e = .returned (.string (wrapB (bnd k) (least + 1) t)) ∧ Ext w w' := by
  have HR := Lib.hid (fun W => rank_calls k W)
  unfold wrapB
  generalize bnd k = b at *
  by_cases h : b < least + 1
  · rw [if_pos h]
    have h' : decide ((b : Int) - 1 < least) = true := by simp; omega
    go_enter Try.func32, Try.ntmps32
    go_wp2_with ((go_at_call 33; (with_reducible refine (HR.out _).mono ?_); rintro e w' ⟨rfl, hw⟩; obtain rfl := hw.symm))
    go_ret
    exact ⟨rfl, (Ext.refl w).alloc _⟩
  · rw [if_neg h]
    have h' : decide ((b : Int) - 1 < least) = false := by simp; omega
    go_enter Try.func32, Try.ntmps32
    go_wp2_with ((go_at_call 33; (with_reducible refine (HR.out _).mono ?_); rintro e w' ⟨rfl, hw⟩; obtain rfl := hw.symm))
    go_ret
    exact ⟨rfl, (Ext.refl w).alloc _⟩
end Go.Proofs.Ytaijjnndnoicpaa
