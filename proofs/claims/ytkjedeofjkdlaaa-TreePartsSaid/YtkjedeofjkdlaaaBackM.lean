/- Plain mathematics: a tree and its parts. Conditions: none. -/
import Derived.Test.YtkjedeofjkdlaaaTreeM
namespace Go.Eg

def mx (l : List Int) : Int := l.foldl max 0
theorem mx_snoc (l : List Int) (d : Int) : mx (l ++ [d]) = max (mx l) d := by simp [mx]
theorem mx_take {l : List Int} {i : Nat} {d : Int} (h : l[i]? = some d) : mx (l.take (i + 1)) = max (mx (l.take i)) d := by
  rw [List.take_add_one, h]; exact mx_snoc _ _
def kidDeps (x : T) : List Int := x.kids.map (T.dep everyK)
theorem dep_kids (x : T) : x.dep everyK = mx (kidDeps x) + 1 := by
  cases x with
  | leaf n => simp [T.dep, everyK, kidDeps, T.kids, mx]
  | un n a =>
    have := (T.dep_bd everyK a).1
    simp [T.dep, everyK, kidDeps, T.kids, mx]
    omega
  | bin n a b =>
    have := (T.dep_bd everyK a).1
    have := (T.dep_bd everyK b).1
    simp [T.dep, everyK, kidDeps, T.kids, mx]
    omega
theorem dep_pos (x : T) : 1 ≤ x.dep everyK := by
  have := (T.dep_bd everyK x).1
  cases x with
  | leaf n => simp [T.dep, everyK]
  | un n a => have := (T.dep_bd everyK a).1; simp [T.dep, everyK]; omega
  | bin n a b => have := (T.dep_bd everyK a).1; have := (T.dep_bd everyK b).1; simp [T.dep, everyK]; omega
theorem kid_len {x y : T} (h : y ∈ x.kids) : y.flat.length < x.flat.length := by
  cases x with
  | leaf n => cases h
  | un n a => simp [T.kids] at h; subst h; simp [T.flat]
  | bin n a b =>
    simp [T.kids] at h
    have := a.flat_pos
    have := b.flat_pos
    rcases h with rfl | rfl <;> simp [T.flat] <;> omega
theorem depF_flat {x : T} (hw : x.wf) (hl : x.flat.length ≤ 4000) (c : Int → Bool) : depF c x.flat = x.dep c := by
  unfold depF
  rw [if_pos (errW_flat hw hl), tr_flat hw]
theorem firstErr_zero : ∀ {ps : List (List Nd)}, (∀ p ∈ ps, errW p = 0) → firstErr ps = 0
  | [], _ => rfl
  | p :: ps, h => by
    unfold firstErr
    rw [if_neg (by simp [h p (by simp)])]
    exact firstErr_zero (fun q hq => h q (by simp [hq]))
theorem join_kids {x : T} (hw : x.wf) (hl : x.flat.length ≤ 4000) : joinE x.root (x.kids.map T.flat) = 0 ∧ joinL x.root (x.kids.map T.flat) = x.flat := by
  obtain ⟨hg, ha⟩ := T.wf_root hw
  have hf : (x.kids.map T.flat).flatten ++ [x.root] = x.flat := by rw [T.flat_root x, List.flatMap_def]
  have hlen : (x.kids.map T.flat).flatten.length + 1 = x.flat.length := by rw [← hf, List.length_append]; rfl
  have hE : joinE x.root (x.kids.map T.flat) = 0 := by
    unfold joinE
    rw [if_neg (by simp [hg]), if_neg (by simp [ha])]
    have h0 : firstErr (x.kids.map T.flat) = 0 := firstErr_zero (fun p hp => by
      obtain ⟨y, hy, rfl⟩ := List.mem_map.1 hp
      exact errW_flat (T.wf_kids hw y hy) (by have := kid_len hy; omega))
    rw [if_neg (by simp [h0]), if_neg (by omega)]
  exact ⟨hE, by unfold joinL; rw [if_pos hE, hf]⟩
end Go.Eg
