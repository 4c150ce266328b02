/- Plain mathematics: what is printed is read as it was, what was read is printed: by Parse's and Print's answers. Conditions: none. -/
import Derived.Test.YtaijjnndnoicpaaSynV
namespace Go.Eg
theorem lets_far {k : Int} (x : T) (hw : x.wf) : x.flat.any (far k) = false ↔ x.lets k := by
  induction x with
  | leaf n =>
    simp only [T.flat, T.lets, List.any_cons, List.any_nil, Bool.or_false, far]
    constructor
    · intro h h3
      have := good_letter hw.1 h3
      simp [h3] at h
      simp [isLet]; omega
    · intro h
      by_cases h3 : n.k = 3
      · have := h h3
        simp [isLet] at this
        simp [h3]; omega
      · simp [h3]
  | un n a ih =>
    have h3 : (far k n) = false := by
      have := hw.2.1
      have : n.k ≠ 3 := by intro e; rw [e] at this; exact absurd this (by decide)
      simp [far, this]
    simp only [T.flat, T.lets, List.any_append, List.any_cons, List.any_nil, Bool.or_false, h3]
    exact ih hw.2.2
  | bin n a b iha ihb =>
    have h3 : (far k n) = false := by
      have := hw.2.1
      have : n.k ≠ 3 := by intro e; rw [e] at this; exact absurd this (by decide)
      simp [far, this]
    simp only [T.flat, T.lets, List.any_append, List.any_cons, List.any_nil, Bool.or_false, h3, Bool.or_eq_false_iff]
    rw [iha hw.2.2.1, ihb hw.2.2.2]
theorem wrap_mem {b L : Nat} {l : List Int} {c : Int} (h : c ∈ wrapP b l L) : c = 40 ∨ c = 41 ∨ c ∈ l := by
  unfold wrapP at h
  split at h
  · simp at h
    rcases h with h | h | h
    · exact .inl h
    · exact .inr (.inr h)
    · exact .inr (.inl h)
  · exact .inr (.inr h)
theorem pr_chars (x : T) (hw : x.wf) : ∀ c ∈ x.pr, 0 ≤ c ∧ c ≤ 255 := by
  induction x with
  | leaf n =>
    intro c hc
    simp only [T.pr, List.mem_singleton] at hc
    subst hc
    unfold leafC
    split
    · decide
    · split
      · decide
      · split
        · decide
        · rename_i h1 h2 h4
          have hk := good_kind hw.1
          have ha := hw.2
          have h3 : n.k = 3 := by
            unfold ar at ha
            split at ha
            · omega
            · split at ha
              · omega
              · omega
          have := good_letter hw.1 h3
          omega
  | un n a ih =>
    intro c hc
    have ih := ih hw.2.2
    rw [T.pr_un] at hc
    split at hc
    · rw [List.mem_append, List.mem_singleton] at hc
      rcases hc with hc | hc
      · rcases wrap_mem hc with h | h | h
        · omega
        · omega
        · exact ih c h
      · omega
    · rw [List.mem_cons] at hc
      rcases hc with hc | hc
      · omega
      · rcases wrap_mem hc with h | h | h
        · omega
        · omega
        · exact ih c h
  | bin n a b iha ihb =>
    intro c hc
    have iha := iha hw.2.2.1
    have ihb := ihb hw.2.2.2
    rw [T.pr_bin, List.mem_append, List.mem_append] at hc
    rcases hc with (hc | hc) | hc
    · rcases wrap_mem hc with h | h | h
      · omega
      · omega
      · exact iha c h
    · unfold signC at hc
      split at hc
      · simp at hc; omega
      · split at hc
        · simp at hc; omega
        · simp at hc
    · rcases wrap_mem hc with h | h | h
      · omega
      · omega
      · exact ihb c h
theorem bt_txt (l : List Int) (h : ∀ c ∈ l, 0 ≤ c ∧ c ≤ 255) : Seg (bt (txt l)) 0 l := by
  intro j x hx
  have hm := h x (List.mem_of_getElem? hx)
  rw [Nat.zero_add]
  unfold bt txt
  simp only [List.getD_eq_getElem?_getD, List.getElem?_map, hx, Option.map_some, Option.getD_some]
  obtain ⟨m, rfl⟩ := Int.eq_ofNat_of_zero_le hm.1
  simp
  omega
theorem print_err {k : Int} {t : List Nd} (h : (printF k t).1 ≠ 0) : (printF k t).2 = [] := by
  unfold printF at h ⊢
  split
  · rfl
  · rename_i h1
    rw [if_neg h1] at h
    split
    · rfl
    · rename_i h2
      rw [if_neg h2] at h
      exact absurd rfl h
theorem chk_parts {k : Int} {t : List Nd} (h : chkF k t = 0) : 1 ≤ k ∧ k ≤ 8 ∧ (tr t).wf ∧ (tr t).flat = t ∧ (tr t).lets k ∧ (tr t).dep everyK ≤ 128 := by
  unfold chkF at h
  split at h
  · omega
  split at h
  · contradiction
  rename_i herr
  split at h
  · omega
  rename_i hd
  split at h
  · omega
  rename_i hf
  obtain ⟨_, hok⟩ := errW_ok (by simpa using herr : errW t = 0)
  obtain ⟨hw, hfl⟩ := tr_of hok
  exact ⟨by omega, by omega, hw, hfl, (lets_far _ hw).1 (by rw [hfl]; simpa using hf), by omega⟩
theorem chk_of {k : Int} {x : T} (h1 : 1 ≤ k) (h8 : k ≤ 8) (hw : x.wf) (hl : x.lets k) (hd : x.dep everyK ≤ 128) (hn : x.flat.length ≤ 4000) : chkF k x.flat = 0 := by
  unfold chkF
  rw [if_neg (by omega), if_neg (by rw [errW_flat hw hn]; simp), tr_flat hw, if_neg (by omega), if_neg (by rw [(lets_far x hw).2 hl]; simp)]
/-- What is printed is read as it was. -/
theorem back {k : Int} {t : List Nd} (h : (printF k t).1 = 0) : parseP k (bt (txt (printF k t).2)) (txt (printF k t).2).size = (0, 0, t) := by
  have hc : chkF k t = 0 := by
    unfold printF at h
    split at h
    · rename_i h1; exact absurd h h1
    · rename_i h1; exact Decidable.not_not.1 h1
  unfold printF at h ⊢
  rw [if_neg (by simp [hc])] at h ⊢
  split at h
  · cases h
  rename_i hl
  rw [if_neg hl]
  obtain ⟨h1, h8, hw, hf, hle, hd⟩ := chk_parts hc
  rw [txt_size]
  have := parse_print (k := k) (c := bt (txt (tr t).pr)) (x := tr t) h1 h8 hw hle (bt_txt _ (pr_chars _ hw)) (by omega) hd
  rw [hf] at this
  exact this
theorem parse_err {k : Int} {c : Nat → Int} {n : Nat} (h : (parseP k c n).1 ≠ 0) : (parseP k c n).2.2 = [] := by
  unfold parseP at h ⊢
  by_cases h8 : k < 1 ∨ 8 < k
  · rw [if_pos h8]
  · rw [if_neg h8] at h ⊢
    by_cases hn : 1000 < n
    · rw [if_pos hn]
    · rw [if_neg hn] at h ⊢
      cases hq : unionP k c n (n + 1) 0 with
      | error p => rfl
      | ok q =>
        obtain ⟨m, t⟩ := q
        rw [hq] at h
        dsimp only at h ⊢
        split
        · rfl
        · rename_i h1
          rw [if_neg h1] at h
          split
          · rfl
          · rename_i h2
            rw [if_neg h2] at h
            exact absurd rfl h
/-- What was read is printed, or too long. -/
theorem read_print {k : Int} {c : Nat → Int} {n : Nat} (h : (parseP k c n).1 = 0) : (printF k (parseP k c n).2.2 = (40, [])) ∨ ((printF k (parseP k c n).2.2).1 = 0 ∧ (Plain c n → (printF k (parseP k c n).2.2).2.length ≤ n)) := by
  obtain ⟨h1, h8, hn, hp, x, hw, hf, hl, hd, hlen, hpl⟩ := parse_tree h
  rw [← hf]
  have hc := chk_of h1 h8 hw hl hd hlen
  unfold printF
  rw [if_neg (by simp [hc]), tr_flat hw]
  split
  · exact .inl rfl
  · exact .inr ⟨rfl, hpl⟩
end Go.Eg
