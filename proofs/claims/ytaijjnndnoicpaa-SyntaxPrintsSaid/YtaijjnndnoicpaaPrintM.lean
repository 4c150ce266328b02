/- Plain mathematics: what Print answers; the stack of its pieces. Conditions: none. -/
import Derived.Test.YtaijjnndnoicpaaPrintA
import Derived.Test.YtaijjnndnoicpaaSynS
namespace Go.Eg
/-- What Print answers: the error; the text. -/
def printF (k : Int) (t : List Nd) : Int × List Int := if chkF k t ≠ 0 then (chkF k t, []) else if 1000 < (tr t).pr.length then (40, []) else (0, (tr t).pr)
/-- The pieces of a stack of trees. -/
def pcs (S : List T) : List (ByteArray × Nat) := S.reverse.map (fun x => (txt x.pr, x.bd))
theorem pcs_len (S : List T) : (pcs S).length = S.length := by simp [pcs]
theorem pcs_push (x : T) (S : List T) : pcs (x :: S) = pcs S ++ [(txt x.pr, x.bd)] := by simp [pcs]
theorem pcs_top (x : T) (S : List T) : (pcs (x :: S))[S.length]? = some (txt x.pr, x.bd) := by
  rw [pcs_push, List.getElem?_append_right (by rw [pcs_len]; exact Nat.le_refl _), pcs_len, Nat.sub_self]; rfl
theorem pcs_under (x y : T) (S : List T) : (pcs (x :: y :: S))[S.length]? = some (txt y.pr, y.bd) := by
  rw [pcs_push, List.getElem?_append_left (by rw [pcs_len]; simp)]; exact pcs_top y S
theorem pcs_set1 (x y : T) (S : List T) : (pcs (x :: S)).set S.length (txt y.pr, y.bd) = pcs (y :: S) := by
  rw [pcs_push, pcs_push, List.set_append_right _ _ (by rw [pcs_len]; exact Nat.le_refl _), pcs_len, Nat.sub_self]; rfl
theorem pcs_set2 (x y z : T) (S : List T) : ((pcs (x :: y :: S)).set S.length (txt z.pr, z.bd)).take (S.length + 1) = pcs (z :: S) := by
  rw [pcs_push, List.set_append_left _ _ (by rw [pcs_len]; simp), pcs_set1, List.take_append_of_le_length (by rw [pcs_len]; simp), List.take_of_length_le (by rw [pcs_len]; simp)]
theorem bd_le (x : T) : x.bd ≤ 6 := by unfold T.bd bnd; (repeat' split) <;> omega
theorem pr_len (x : T) : x.pr.length ≤ 5 * x.flat.length := by
  induction x with
  | leaf n => simp [T.pr, T.flat]
  | un n a ih =>
    have h1 := wrap_len a.bd a.pr 5
    have h2 := wrap_len a.bd a.pr 4
    rw [T.pr_un]
    simp only [T.flat, List.length_append, List.length_singleton]
    split
    · simp only [List.length_append, List.length_singleton]; split at h1 <;> omega
    · simp only [List.length_cons]; split at h2 <;> omega
  | bin n a b iha ihb =>
    have h1 := wrap_len a.bd a.pr (bnd n.k)
    have h2 := wrap_len b.bd b.pr (bnd n.k + 1)
    have h3 : (signC n.k).length ≤ 1 := by unfold signC; (repeat' split) <;> simp
    rw [T.pr_bin]
    simp only [T.flat, List.length_append, List.length_singleton]
    split at h1 <;> split at h2 <;> omega
theorem Eg.St.small {t : List Nd} {i : Nat} {S : List T} (h : Eg.St t i S) (ht : t.length ≤ 4000) : ∀ x ∈ S, x.pr.length ≤ 20000 := fun x hx => by
  have h1 := pr_len x
  have h2 : x.flat.length ≤ (fl S).length := by
    obtain ⟨s1, s2, rfl⟩ := List.append_of_mem hx
    simp [fl]; omega
  rw [h.flat, List.length_take] at h2
  omega
end Go.Eg
