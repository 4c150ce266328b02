/- Walks of the statements' own helpers: SpoilNodes, ApartNodes. Conditions: rows of one's own. -/
import Derived.Test.YtaijjnndnoicpaaKeepB
import Derived.Test.YtaijjnndnoicpaaEgApart
import Derived.Test.YtaijjnndnoicpaaTreeG
namespace Go.Proofs.Ytaijjnndnoicpaa
open Go.RowKit Go.Eg

/-- A node is stored into a row of one's own. -/
theorem put_node {e base : Nat} {w : World} {xs : List Nd} {g n c i : Nat} {x : Nd} (h : Own tyNd e base No w xs (.slice (some ⟨g, 0, none⟩) n c)) (hi : xs[i]? = some x) (k s : Int) (hs : 0 ≤ s ∧ s ≤ 255) :
    Own tyNd e base No ((w.setCell ⟨g, i * 2, none⟩ (.int .i64 k)).setCell ⟨g, i * 2 + 1, none⟩ (.int .u8 s)) (xs.set i ⟨k, s⟩) (.slice (some ⟨g, 0, none⟩) n c) ∧ w.grownBy ((w.setCell ⟨g, i * 2, none⟩ (.int .i64 k)).setCell ⟨g, i * 2 + 1, none⟩ (.int .u8 s)) (some g) := by
  obtain ⟨b, off, cs, e1, hb, ⟨hcs, hby⟩, ha⟩ := h.rd.at hi
  have hil := (List.getElem?_eq_some_iff.1 hi).1
  obtain ⟨h1, g1⟩ := h.store (j := 0) hi (by decide) (.int .i64 k) ⟨k, x.s⟩ (fun cs hcs => by obtain ⟨rfl, hb⟩ := hcs; exact ⟨rfl, hb⟩)
  have hi1 : (xs.set i ⟨k, x.s⟩)[i]? = some ⟨k, x.s⟩ := by rw [List.getElem?_set]; simp [hil]
  obtain ⟨h2, g2⟩ := h1.store (j := 1) hi1 (by decide) (.int .u8 s) ⟨k, s⟩ (fun cs hcs => by obtain ⟨rfl, hb⟩ := hcs; exact ⟨rfl, hs⟩)
  rw [List.set_set] at h2
  exact ⟨h2, g1.trans g2⟩
theorem own_cells {e base : Nat} {w : World} {xs : List Nd} {g n c i : Nat} (h : Own tyNd e base No w xs (.slice (some ⟨g, 0, none⟩) n c)) (hi : i < xs.length) :
    w.cell? ⟨g, i * 2, none⟩ = some (.int .i64 (nth xs i).k) ∧ w.cell? ⟨g, i * 2 + 1, none⟩ = some (.int .u8 (nth xs i).s) ∧ w.frozen? ⟨g, i * 2, none⟩ = false ∧ w.frozen? ⟨g, i * 2 + 1, none⟩ = false := by
  obtain ⟨b, off, e1, hb, h0, h1⟩ := rd_node h.rd hi
  cases e1
  rw [Nat.zero_add] at h0 h1
  exact ⟨h0, h1, h.free _, h.free _⟩

/-- The lists before i are marked, and of the i-th the first k. -/
def Mk (xss yss : List (List Nd)) (i k : Nat) : Prop :=
  yss.length = xss.length ∧ ∀ (j : Nat) (x : List Nd), xss[j]? = some x → ∃ y, yss[j]? = some y ∧ y.length = x.length ∧ ∀ l, l < x.length → (j < i ∨ (j = i ∧ l < k)) → nth y l = ⟨1000 + j, 0⟩
theorem Mk.start (xss : List (List Nd)) : Mk xss xss 0 0 := ⟨rfl, fun j x hx => ⟨x, hx, rfl, fun l _ h => by omega⟩⟩
theorem Mk.at {xss yss : List (List Nd)} {i k : Nat} (h : Mk xss yss i k) {x : List Nd} (hx : xss[i]? = some x) : ∃ y, yss[i]? = some y ∧ y.length = x.length := let ⟨y, h1, h2, _⟩ := h.2 i x hx; ⟨y, h1, h2⟩
theorem Mk.step {xss yss : List (List Nd)} {i k : Nat} (h : Mk xss yss i k) {y : List Nd} (hy : yss[i]? = some y) (hk : k < y.length) : Mk xss (yss.set i (y.set k ⟨1000 + i, 0⟩)) i (k + 1) := by
  refine ⟨by rw [List.length_set]; exact h.1, fun j x hx => ?_⟩
  obtain ⟨y', h1, h2, h3⟩ := h.2 j x hx
  by_cases hij : i = j
  · subst hij
    rw [hy] at h1
    cases h1
    refine ⟨y.set k ⟨1000 + i, 0⟩, by rw [List.getElem?_set]; simp [(List.getElem?_eq_some_iff.1 hy).1], by rw [List.length_set]; exact h2, fun l hl hc => ?_⟩
    unfold nth
    rw [List.getD_eq_getElem?_getD, List.getElem?_set]
    by_cases hkl : k = l
    · subst hkl
      simp [hk]
    · rw [if_neg hkl, ← List.getD_eq_getElem?_getD]
      exact h3 l hl (by omega)
  · refine ⟨y', by rw [List.getElem?_set, if_neg hij]; exact h1, h2, fun l hl hc => h3 l hl (by omega)⟩
theorem Mk.next {xss yss : List (List Nd)} {i : Nat} {x : List Nd} (hx : xss[i]? = some x) {k : Nat} (hk : x.length ≤ k) (h : Mk xss yss i k) : Mk xss yss (i + 1) 0 := by
  refine ⟨h.1, fun j x' hx' => ?_⟩
  obtain ⟨y', h1, h2, h3⟩ := h.2 j x' hx'
  refine ⟨y', h1, h2, fun l hl hc => h3 l hl ?_⟩
  by_cases hji : j < i
  · exact .inl hji
  · have : j = i := by omega
    subst this
    rw [hx] at hx'
    cases hx'
    exact .inr ⟨rfl, by omega⟩
theorem Mk.all {xss yss : List (List Nd)} (h : Mk xss yss xss.length 0) {j : Nat} {y : List Nd} (hy : yss[j]? = some y) : ∃ x, xss[j]? = some x ∧ y.length = x.length ∧ ∀ l, l < y.length → nth y l = ⟨1000 + j, 0⟩ := by
  have hj : j < xss.length := by rw [← h.1]; exact (List.getElem?_eq_some_iff.1 hy).1
  obtain ⟨y', h1, h2, h3⟩ := h.2 j _ (List.getElem?_eq_getElem hj)
  rw [hy] at h1
  cases h1
  exact ⟨_, List.getElem?_eq_getElem hj, h2, fun l hl => h3 l (by omega) (.inl hj)⟩

theorem cells_new (w : World) (cs : Array Value) (e : TypeId) {b : Nat} (hb : b = w.heap.size) : ∀ j v, cs.toList[j]? = some v → (w.alloc (.cells cs e)).cell? ((⟨b, 0, none⟩ : Addr).add j) = some v := by
  intro j v hv
  subst hb
  have hadd : (⟨w.heap.size, 0, none⟩ : Addr).add j = ⟨w.heap.size, j, none⟩ := by
    unfold Addr.add
    split
    · rename_i h; rw [h]
    · simp
  rw [hadd, World.cell?_alloc_new, ← Array.getElem?_toList]
  exact hv
/-- What a list that has grown is told as. -/
theorem AP.told {α : Type} {t : Ty α} {e1 e base : Nat} {yss : List (List α)} {Z : Nat → List α} {v : Value} {vs : List Value} {i j : Nat} {w : World} {gv : Value} {Gs : List (List α)} (h : AP t e1 e base yss Z v vs i w gv Gs) (hj : j < i) {y : List α} (hy : yss[j]? = some y) :
    ∃ g c u, v = .slice (some ⟨g, 0, none⟩) yss.length c ∧ w.cell? ⟨g, j, none⟩ = some u ∧ Rd t w y u := by
  have hil := (List.getElem?_eq_some_iff.1 hy).1
  have hvl : j < vs.length := by rw [h.row.1]; omega
  rcases h.row.2 with ⟨rfl, h0⟩ | ⟨g, cap, cur, hv, hb, hh, h1, h2, h3, h4⟩
  · omega
  · have hadd : (⟨g, 0, none⟩ : Addr).add j = ⟨g, j, none⟩ := by
      unfold Addr.add
      split
      · rename_i h; rw [h]
      · simp
    have hu : vs[j]? = some vs[j] := List.getElem?_eq_getElem hvl
    have hc := h.row.cells (g := g) (by rw [hv]; rfl) j _ hu
    rw [hadd] at hc
    exact ⟨g, cap, vs[j], hv, hc, (h.done j y _ hj hy hu).any⟩

def plus (j : Nat) : List Nd := List.replicate 40 ⟨2000 + j, 0⟩

set_option maxHeartbeats 4000000 in
set_option maxRecDepth 100000 in
theorem apartNodes_calls (xss : List (List Nd)) (v : Value) (base : Nat) (w : World) (hv : Own2 tyNd 22 54 base w xss v) (hb : base ≤ w.heap.size) (hn : xss.length ≤ 1000) (hxl : ∀ x ∈ xss, x.length ≤ 100000) :
    Calls Try.prog 13 #[v] w fun e w' => e = .returned (.bool true) ∧ Below base w w' := by
  obtain ⟨A, c, rfl, hlc, hcm⟩ := hv.shape
  have HXL := Lib.hid hxl
  clear hxl
  go_enter Try.func13, Try.ntmps13
  go_wp2_with fail
  go_loopw [4] (fun v4 wr => ∃ (i : Nat) (yss : List (List Nd)), v4 = .int .i64 i ∧ i ≤ xss.length ∧ Hid (Mk xss yss i 0) ∧ Own2 tyNd 22 54 base wr yss (.slice A xss.length c) ∧ Below base w wr) (fun v4 _ => xss.length - (intOf v4).toNat)
  case atStart => exact ⟨0, xss, rfl, by omega, Lib.hid (Mk.start xss), hv, Below.refl _ _⟩
  case round =>
    obtain ⟨i, yss, rfl, hi, HM, ho, hbl⟩ := hrel
    by_cases hlt : i < xss.length
    · obtain ⟨x, hx⟩ : ∃ x, xss[i]? = some x := ⟨_, List.getElem?_eq_getElem hlt⟩
      have hxl := HXL.out x (List.mem_of_getElem? hx)
      have HX := Lib.hid hx
      clear hx
      go_wp2_with fail
      go_loopw [5] (fun v5 wr => ∃ (k : Nat) (yss : List (List Nd)), v5 = .int .i64 k ∧ k ≤ x.length ∧ Hid (Mk xss yss i k) ∧ Own2 tyNd 22 54 base wr yss (.slice A xss.length c) ∧ Below base w wr) (fun v5 _ => x.length - (intOf v5).toNat)
      case atStart => exact ⟨0, yss, rfl, by omega, HM, ho, hbl⟩
      case round =>
        obtain ⟨k, yss, rfl, hk, HM, ho, hbl⟩ := hrel
        obtain ⟨y, hy, hyx⟩ := HM.out.at HX.out
        obtain ⟨g, u, rfl, hg1, hg2, hcell, hfz, hou, hne⟩ := ho.get hy
        obtain ⟨Au, cu, e, hu1, hu2⟩ := hou.shape
        rw [hyx] at e hu1
        subst e
        by_cases hkx : k < x.length
        · obtain ⟨gu, rfl⟩ : ∃ gu, Au = some ⟨gu, 0, none⟩ := by
            rcases hou.zero with ⟨_, h0, _⟩ | ⟨gu, e, _⟩
            · omega
            · exact ⟨gu, e⟩
          have hky : k < y.length := by omega
          obtain ⟨c0, c1, f0, f1⟩ := own_cells hou hky
          obtain ⟨hp, hpg⟩ := put_node hou (nth_get hky) (1000 + i) 0 (by decide)
          have hup := ho.upd hy hcell hpg hp
          have HUP := Lib.hid hup
          have HPG := Lib.hid (hbl.grown hpg (Nat.le_trans hb hbl.size) (fun k hk => hou.lo k hk))
          have HM' := Lib.hid (HM.out.step hy hky)
          clear hy hyx hou hne hp hpg hup hky
          go_wp2_with fail
          go_roundw
          case rel => exact ⟨k + 1, _, by go_num, by omega, HM', HUP.out, HPG.out⟩
          case measure => simp [intOf]; omega
        · have hk' : k = x.length := by omega
          subst hk'
          clear hou hne
          have HMN := Lib.hid (Mk.next HX.out (Nat.le_refl _) HM.out)
          go_wp2_with fail
          go_roundw
          case rel => exact ⟨i + 1, yss, by go_num, by omega, HMN, ho, hbl⟩
          case measure => simp [intOf]; omega
    · have hi' : i = xss.length := by omega
      subst hi'
      obtain ⟨vs, hap⟩ := AP.start (Z := plus) ho
      have HYL : Hid (yss.length = xss.length) := HM.out.1
      have HALL : Hid (∀ (j : Nat) (y : List Nd), yss[j]? = some y → y.length ≤ 100000 ∧ ∀ l, l < y.length → nth y l = ⟨1000 + j, 0⟩) := fun j y hy => by
        obtain ⟨x, hx, hl, hn⟩ := HM.out.all hy
        have := HXL.out x (List.mem_of_getElem? hx)
        exact ⟨by omega, hn⟩
      clear hi hlt ho hv
      go_wp2_with fail
      go_loopw [3, 6] (fun v3 v6 wr => ∃ (i : Nat) (Gs : List (List Nd)), v6 = .int .i64 i ∧ i ≤ xss.length ∧ AP tyNd 22 54 base yss plus (.slice A xss.length c) vs i wr v3 Gs ∧ Below base w wr) (fun _ v6 _ => xss.length - (intOf v6).toNat)
      case atStart => exact ⟨0, [], rfl, by omega, hap, hbl⟩
      case round =>
        clear hap hbl
        obtain ⟨i, Gs, rfl, hi, hap, hbl⟩ := hrel
        obtain ⟨A3, c3, rfl, h31, h32⟩ := hap.gr.shape
        have hgl := hap.len
        by_cases hlt : i < xss.length
        · obtain ⟨y, hy⟩ : ∃ y, yss[i]? = some y := ⟨_, List.getElem?_eq_getElem (by have := HYL.out; omega)⟩
          have hyl := (HALL.out i y hy).1
          obtain ⟨g, c', u, e, hgl2, hcell, hvs, hou, -⟩ := hap.at hy
          rw [HYL.out] at e
          cases e
          obtain ⟨Au, cu, rfl, hu1, hu2⟩ := hou.shape
          have hst := Grow.start hou
          obtain ⟨wo, hwo⟩ : ∃ wo : World, wo = wr := ⟨_, rfl⟩
          subst hwo
          have HVS := Lib.hid hvs
          have HY := Lib.hid hy
          have HGL := Lib.hid hgl
          clear hvs hy hou hgl
          go_wp2_with fail
          go_loopw [7, 8] (fun v7 v8 wr => ∃ k : Nat, v8 = .int .i64 k ∧ k ≤ 40 ∧ Grow tyNd 54 base wo (.slice Au y.length cu) y (List.replicate k ⟨2000 + i, 0⟩) wr v7) (fun _ v8 _ => 40 - (intOf v8).toNat)
          case atStart => exact ⟨0, rfl, by omega, hst⟩
          case round =>
            clear hst
            obtain ⟨k, rfl, hk, hG⟩ := hrel
            obtain ⟨A7, c7, e7, h71, h72⟩ := hG.own.shape
            rw [List.length_append, List.length_replicate] at e7 h71
            subst e7
            have hbw : base ≤ wr.heap.size := Nat.le_trans (Nat.le_trans hb hbl.size) hG.grown.size
            by_cases hk4 : k < 40
            · go_wp2_with (first | ((with_reducible refine gate_bi .append #[.tmp 49, .tmp 53] ?_); go_must (refine wp_append_grow (t := tyNd) 54 base 16 elNd _ (.slice A7 (y.length + k) c7) y (List.replicate k ⟨2000 + i, 0⟩) (hG.ext ((Ext.refl _).alloc _)) rfl ⟨2000 + i, 0⟩ ⟨wr.heap.size, 0, none⟩ 1 rfl [.int .i64 (2000 + i), .int .u8 0] (fun _ _ => ⟨rfl, (show (0 : Int) ≤ 0 ∧ (0 : Int) ≤ 255 from by decide)⟩) (cells_new wr #[.int .i64 (2000 + i), .int .u8 0] _ rfl) (by rw [List.length_append, List.length_replicate]; omega) (by decide) (by simp; omega) ?_; intro v9 w9 hG9)))
              go_roundw
              case rel => exact ⟨k + 1, by go_num, by omega, by rw [List.replicate_succ']; exact hG9⟩
              case measure => simp [intOf]; omega
            · have hk' : k = 40 := by omega
              subst hk'
              have hlie : ∀ b, (Value.slice A7 (y.length + 40) c7).ownBlock = some b ∨ wo.heap.size ≤ b → Free (.slice (some ⟨g, 0, none⟩) xss.length c) vs (i + 1) b ∧ (Value.slice A3 Gs.length c3).ownBlock ≠ some b := fun b hb => hap.lies HVS.out HY.out hG hb
              have HLIE := Lib.hid hlie
              have hrd := hap.ready HVS.out hG
              have hsrc : SlP tyNd (fun b => (Value.slice A7 (y.length + 40) c7).ownBlock = some b ∨ wo.heap.size ≤ b) wr (y ++ plus i) (.slice A7 (y.length + 40) c7) := hG.own.sl.mono (fun b hb => by rcases hb with hf | hb; exact hf.elim; exact .inl hb)
              have hszr := hG.grown.size
              have hbw2 : Below base w wr := hbl.grown hG.grown (Nat.le_trans hb hbl.size) (fun k hk => by
                obtain ⟨A0, n0, c0, e0, h0⟩ := hG.head
                rcases h0 with h0 | ⟨g0, h0⟩
                · cases e0; subst h0; cases hk
                · cases e0; subst h0; cases hk; exact (hap.pend i y _ (Nat.le_refl _) HY.out HVS.out).lo _ rfl)
              have hap' := hap
              clear hlie hap
              go_wp2_with (first | ((with_reducible refine gate_bi .append #[.tmp 55, .tmp 57] ?_); go_must (refine wp_append (t := Ty.slice tyNd) 22 base 24 elNds (Free (.slice (some ⟨g, 0, none⟩) xss.length c) vs (i + 1)) (.slice A3 Gs.length c3) Gs rfl (hrd.ext ((Ext.refl _).alloc _)) _ [y ++ plus i] rfl _ (SlP.lit1 (B := fun b => (Value.slice A7 (y.length + 40) c7).ownBlock = some b ∨ wo.heap.size ≤ b) (.inr hszr) hsrc) (fun _ _ h => (Ty.slice tyNd).mono (fun b hb => HLIE.out b hb) h) (by rw [HGL.out]; simp; omega) (by decide) (by simp; omega) ?_; intro v9 w9 ho9 hg9 hat9)))
              go_roundw
              case rel =>
                refine ⟨i + 1, _, by go_num, by omega, hap'.step HVS.out HY.out hG ((Ext.refl _).alloc _) ho9 hg9 hat9, ?_⟩
                exact (Below.alloc hbw2 hbw _).grown hg9 (by simp; omega) (fun k hk => hap'.gr.lo k hk)
              case measure => simp [intOf]; omega
        · have hi' : i = xss.length := by omega
          subst hi'
          clear hi hlt
          have HFACT : Hid (∀ (j : Nat) (y : List Nd), yss[j]? = some y → ∃ g u gg uu, A = some ⟨g, 0, none⟩ ∧ wr.cell? ⟨g, j, none⟩ = some u ∧ Rd tyNd wr y u ∧ A3 = some ⟨gg, 0, none⟩ ∧ wr.cell? ⟨gg, j, none⟩ = some uu ∧ Rd tyNd wr (y ++ plus j) uu) := fun j y hy => by
            have hj : j < xss.length := by rw [← HYL.out]; exact (List.getElem?_eq_some_iff.1 hy).1
            obtain ⟨g, c', u, e, hc, hr⟩ := AP.told hap hj hy
            obtain ⟨b, off, uu, e', hb', hc', hr'⟩ := hap.gr.rd.slices (hap.grown j y hj hy)
            rcases hap.gr.zero with ⟨h0, _⟩ | ⟨gg, h0, _⟩
            · rw [e'] at h0; cases h0
            · rw [h0] at e'
              cases e'
              rw [Nat.zero_add] at hc'
              rw [HYL.out] at e
              cases e
              exact ⟨g, u, _, uu, rfl, hc, hr, h0, hc', hr'⟩
          have hbl' := hbl
          obtain ⟨w3, hw3⟩ : ∃ w3 : World, w3 = wr := ⟨_, rfl⟩
          subst hw3
          clear hap hbl
          go_wp2_with fail
          go_loopw [9] (fun v9 wr => ∃ i : Nat, v9 = .int .i64 i ∧ i ≤ xss.length ∧ wr = w3) (fun v9 _ => xss.length - (intOf v9).toNat)
          case atStart => exact ⟨0, rfl, by omega, rfl⟩
          case round =>
            obtain ⟨i, rfl, hi, hwr⟩ := hrel
            obtain rfl := hwr.symm
            by_cases hlt : i < xss.length
            · obtain ⟨y, hy⟩ : ∃ y, yss[i]? = some y := ⟨_, List.getElem?_eq_getElem (by have := HYL.out; omega)⟩
              obtain ⟨hyl, hyn⟩ := HALL.out i y hy
              have HYN := Lib.hid hyn
              obtain ⟨g, u, gg, uu, rfl, hcell, hru, rfl, hcell2, hruu⟩ := HFACT.out i y hy
              obtain ⟨Au, cu, rfl, hu1, hu2⟩ := hru.shape
              obtain ⟨Auu, cuu, euu, huu1, huu2⟩ := hruu.shape
              have hpl : (y ++ plus i).length = y.length + 40 := by rw [List.length_append, plus, List.length_replicate]
              rw [hpl] at euu huu1
              subst euu
              have HPL := Lib.hid hpl
              have HU := Lib.hid hru
              have HUU := Lib.hid hruu
              clear hy hyn hru hruu hpl
              go_wp2_with fail
              go_loopw [10] (fun v10 wr => ∃ k : Nat, v10 = .int .i64 k ∧ k ≤ y.length + 40 ∧ wr = w3) (fun v10 _ => y.length + 40 - (intOf v10).toNat)
              case atStart => exact ⟨0, rfl, by omega, rfl⟩
              case round =>
                obtain ⟨k, rfl, hk, hwr⟩ := hrel
                obtain rfl := hwr.symm
                by_cases hk4 : k < y.length + 40
                · obtain ⟨bb, off, e, hb1, d0, d1⟩ := rd_node HUU.out (i := k) (by rw [HPL.out]; exact hk4)
                  cases e
                  by_cases hky : k < y.length
                  · obtain ⟨b2, off2, rfl, hb2, c0, c1⟩ := rd_node HU.out hky
                    have e1 : nth (y ++ plus i) k = ⟨1000 + i, 0⟩ := by
                      rw [← HYN.out k hky]
                      unfold nth
                      rw [List.getD_eq_getElem?_getD, List.getD_eq_getElem?_getD, List.getElem?_append_left hky]
                    rw [e1] at d0 d1
                    rw [HYN.out k hky] at c0 c1
                    have hky1 : (k : Int) < y.length := by omega
                    have hky2 : decide ((y.length : Int) ≤ k) = false := by simp; omega
                    clear e1
                    go_wp2_with fail
                    go_roundw
                    case rel => exact ⟨k + 1, by go_num, by omega, by first | rfl | trivial⟩
                    case measure => simp [intOf]; omega
                  · have e1 : nth (y ++ plus i) k = ⟨2000 + i, 0⟩ := by
                      unfold nth plus
                      rw [List.getD_eq_getElem?_getD, List.getElem?_append_right (by omega), List.getElem?_replicate, if_pos (by omega)]
                      rfl
                    rw [e1] at d0 d1
                    have hky1 : decide ((k : Int) < y.length) = false := by simp; omega
                    have hky2 : (y.length : Int) ≤ k := by omega
                    clear e1
                    go_wp2_with fail
                    go_roundw
                    case rel => exact ⟨k + 1, by go_num, by omega, by first | rfl | trivial⟩
                    case measure => simp [intOf]; omega
                · have hk' : k = y.length + 40 := by omega
                  subst hk'
                  go_wp2_with fail
                  go_roundw
                  case rel => first | exact ⟨i + 1, by go_num, by omega, rfl⟩ | exact ⟨i + 1, by go_num, by omega⟩
                  case measure => simp [intOf]; omega
            · go_wp2_with fail
              go_ret
              exact ⟨rfl, hbl'⟩
end Go.Proofs.Ytaijjnndnoicpaa
