/- Plain mathematics: what the statements' own check (live) sees; texts and lists of signs. Conditions: none. -/
import Derived.Test.YtaijjnndnoicpaaSynI
import Derived.Test.YtaijjnndnoicpaaSynR
import Derived.Test.YtaijjnndnoicpaaSynK
import Derived.Test.YtaijjnndnoicpaaPrintM
namespace Go.Eg
def liveT : T := .un ⟨8, 0⟩ (.bin ⟨7, 0⟩ (.leaf ⟨3, 97⟩) (.leaf ⟨3, 98⟩))
theorem live_wf : liveT.wf := by simp [liveT, T.wf, good, ar]
theorem live_lets : liveT.lets 2 := by simp [liveT, T.lets, isLet]
theorem live_print : printF 2 [⟨3, 97⟩, ⟨3, 98⟩, ⟨7, 0⟩, ⟨8, 0⟩] = (0, [40, 97, 98, 41, 42]) := by rfl
theorem live_insB : bt ⟨#[40, 32, 97, 98, 41, 42]⟩ = insB (bt ⟨#[40, 97, 98, 41, 42]⟩) 1 := by
  funext j
  match j with
  | 0 | 1 | 2 | 3 | 4 | 5 => rfl
  | j + 6 => simp [bt, insB]
theorem live_parse : parseP 2 (bt ⟨#[40, 32, 97, 98, 41, 42]⟩) 6 = (0, 0, [⟨3, 97⟩, ⟨3, 98⟩, ⟨7, 0⟩, ⟨8, 0⟩]) := by
  have h0 : parseP 2 (bt ⟨#[40, 97, 98, 41, 42]⟩) 5 = (0, 0, liveT.flat) := parse_print (x := liveT) (by decide) (by decide) live_wf live_lets (by
    intro j x hx
    match j with
    | 0 | 1 | 2 | 3 | 4 => have := Option.some.inj hx; subst this; rfl
    | j + 5 => simp [liveT, T.pr, wrapP, bnd, T.bd, T.root, leafC, signC] at hx) (by decide) (by decide)
  obtain ⟨h1, h2, _⟩ := parse_blank (c := bt ⟨#[40, 97, 98, 41, 42]⟩) (n := 5) (a := 1) 2 (by decide) (by decide)
  rw [h0] at h1 h2
  rw [live_insB]
  have h3 := (parse_tree h1).2.2.2.1
  exact Prod.ext h1 (Prod.ext h3 h2)
end Go.Eg
