/- The sort of entries: a row of the call's own as the shelf's sort sees it, and back. No walk here. -/
import Derived.Test.YtdmnmfnmaccmoaaGreatDoorG3
import Derived.Shelf.SlSortCmp.NoneTotal
namespace Go.Proofs.YtdmnmfnmaccmoaaGreatDoor
open Go Go.RowKit Go.Sort
instance : Inhabited Ent := ⟨⟨rZero, 0⟩⟩
abbrev Cell5 : Type := (Option Addr × Nat × Nat) × Ent
def enc5 (x : Cell5) : List Value := [.int .i64 x.2.rcd.kind, .int .i64 x.2.rcd.key, .int .i64 x.2.rcd.ver, .slice x.1.1 x.1.2.1 x.1.2.2, .int .i64 x.2.pair]
theorem enc5_len (x : Cell5) : (enc5 x).length = 5 := rfl
theorem enc5_one (x : Cell5) : ∀ v ∈ enc5 x, v.oneCell' = true := by
 intro v hv
 simp only [enc5, List.mem_cons, List.not_mem_nil, or_false] at hv
 rcases hv with rfl | rfl | rfl | rfl | rfl <;> rfl
def or3 (a b c : Int) : Int := if a ≠ 0 then a else if b ≠ 0 then b else c
def oCmp (a b : Ent) : Int := or3 (Lib.compareInt a.rcd.key b.rcd.key) (Lib.compareInt a.rcd.ver b.rcd.ver) (Lib.compareInt a.pair b.pair)
def cf5 (x y : Cell5) : Int := oCmp x.2 y.2
theorem oCmp_neg (a b : Ent) : oCmp a b < 0 ↔ eLt a b := by
 unfold oCmp or3 Lib.compareInt eLt
 repeat' split
 all_goals omega
theorem lt5 (x y : Cell5) : ltOf cf5 x y = decide (eLt x.2 y.2) := by
 unfold ltOf cf5
 exact decide_eq_decide.2 (oCmp_neg _ _)
theorem swo5 : SWO (ltOf cf5) where
 irrefl x := by rw [lt5]; simp [eLt_irrefl]
 trans x y z h1 h2 := by
  rw [lt5, decide_eq_true_eq] at *
  exact eLt_trans h1 h2
 ntrans x y z h1 h2 := by
  rw [lt5, decide_eq_false_iff_not] at *
  unfold eLt at *
  omega
theorem flat5 : ∀ (d : List Cell5), (d.map enc5).flatten.length = d.length * 5
 | [] => rfl
 | x :: r => by simp only [List.map_cons, List.flatten_cons, List.length_append, enc5_len, List.length_cons, flat5 r]; omega
theorem flat5_at (d : Array Cell5) (j : Nat) (hj : j < d.size * 5) : (d.toList.map enc5).flatten[j]? = some (flatK enc5 5 d)[j]! := by
 have hdiv : j / 5 < d.size := by omega
 have hmod : j % 5 < 5 := Nat.mod_lt _ (by omega)
 have e : j = j / 5 * 5 + j % 5 := by omega
 rw [get_flatK _ _ _ _ hj]
 conv => lhs; rw [e]
 rw [flat_at (size := 5) _ (by intro cs hcs; obtain ⟨x, _, rfl⟩ := List.mem_map.1 hcs; rfl) _ _ (by simpa using hdiv) hmod]
 have e2 : (d.toList.map enc5).getD (j / 5) [] = enc5 d[j / 5]! := by
  rw [List.getD_eq_getElem?_getD, List.getElem?_map, List.getElem?_eq_getElem (by simpa using hdiv)]
  rw [getElem!_pos d (j / 5) hdiv]
  rfl
 rw [e2]
 rw [List.getElem?_eq_getElem (by rw [enc5_len]; exact hmod), getElem!_pos (enc5 _) _ (by rw [enc5_len]; exact hmod)]
theorem perm_of {d d' : Array Cell5} (h : PermIn 0 d.size d d') : d'.toList.Perm d.toList := by
 obtain ⟨h1, _, h3⟩ := h
 rw [← h1] at h3
 have e1 : d'.extract 0 d'.size = d' := by simp
 have e2 : d.extract 0 d'.size = d := by rw [h1]; simp
 rwa [e1, e2] at h3
theorem sorted_of {d : Array Cell5} (h : SortedIn (ltOf cf5) 0 d.size d) : (d.toList.map (·.2)).Pairwise fun a b => ¬ eLt b a := by
 rw [List.pairwise_iff_getElem]
 intro i j hi hj hij
 simp only [List.length_map, Array.length_toList] at hi hj
 have := h i j (Nat.zero_le _) hij hj
 rw [lt5, decide_eq_false_iff_not, getElem!_pos d i hi, getElem!_pos d j hj] at this
 simpa using this
theorem OwnRow.sort {w : World} {rb base : Nat} {v : Value} {l : List Ent} (h : OwnRow eEnt w rb base v l) (hn : l ≠ []) (hb : base ≤ rb) :
  ∃ g cap, ∃ d : Array Cell5, v = .slice (some ⟨g, 0, none⟩) d.size cap ∧ d.size = l.length ∧ rb ≤ g ∧ g < w.heap.size ∧ HoldsK enc5 5 w g 0 d ∧ d.size ≤ maxLen ∧
   ∀ d' m os, PermIn 0 d.size d d' → SortedIn (ltOf cf5) 0 d.size d' → ∃ l', l'.Perm l ∧ (l'.Pairwise fun a b => ¬ eLt b a) ∧ OwnRow eEnt (sortWorldK enc5 5 w g 0 m d' os) rb base v l' ∧ Below rb w (sortWorldK enc5 5 w g 0 m d' os) := by
 obtain ⟨css, hc, hlen, ho⟩ := h
 rcases ho with ⟨_, h0⟩ | ⟨g, cap, cur, rfl, hrb, hg, hncap, hcm, hsz, htake⟩
 ·exact absurd (List.eq_nil_of_length_eq_zero h0) hn
 have each : ∀ i, i < l.length → ∃ q : Option Addr × Nat × Nat, css.getD i [] = enc5 (q, l.getD i ⟨rZero, 0⟩) ∧ ByT w base (.slice q.1 q.2.1 q.2.2) (l.getD i ⟨rZero, 0⟩).rcd.data := by
  intro i hi
  obtain ⟨u, e, hu⟩ := hc.2 i hi
  obtain ⟨A, n, c, rfl, _⟩ := id hu
  exact ⟨(A, n, c), e, hu⟩
 obtain ⟨q, hq⟩ : ∃ q : Nat → Option Addr × Nat × Nat, ∀ i, i < l.length → css.getD i [] = enc5 (q i, l.getD i ⟨rZero, 0⟩) ∧ ByT w base (.slice (q i).1 (q i).2.1 (q i).2.2) (l.getD i ⟨rZero, 0⟩).rcd.data :=
  ⟨fun i => if h : i < l.length then Classical.choose (each i h) else (none, 0, 0), fun i h => by simp only [h, dif_pos]; exact Classical.choose_spec (each i h)⟩
 obtain ⟨d, hd⟩ : ∃ d : Array Cell5, d = ((List.range l.length).map fun i => (q i, l.getD i ⟨rZero, 0⟩)).toArray := ⟨_, rfl⟩
 have hds : d.size = l.length := by rw [hd]; simp
 have hdi : ∀ i, i < l.length → d[i]! = (q i, l.getD i ⟨rZero, 0⟩) := by
  intro i hi
  rw [getElem!_pos d i (by omega)]
  simp [hd]
 have hcss : css = d.toList.map enc5 := by
  apply List.ext_getElem?
  intro i
  by_cases hi : i < l.length
  ·have h1 := (hq i hi).1
   have hi' : i < css.length := by rw [hc.1]; exact hi
   rw [List.getD_eq_getElem?_getD, List.getElem?_eq_getElem hi'] at h1
   rw [List.getElem?_eq_getElem hi', List.getElem?_map, List.getElem?_eq_getElem (by simpa [hds] using hi)]
   have h2 := hdi i hi
   rw [getElem!_pos d i (by omega)] at h2
   simp only [Option.getD_some] at h1
   simp only [Option.map_some, Array.getElem_toList, h2, h1]
  ·rw [List.getElem?_eq_none (by have := hc.1; omega), List.getElem?_eq_none (by rw [List.length_map, Array.length_toList, hds]; omega)]
 have hdl : d.toList.map (·.2) = l := by
  apply List.ext_getElem
  ·simp [hds]
  ·intro i h1 h2
   have := hdi i h2
   rw [getElem!_pos d i (by omega)] at this
   simp [this, List.getD_eq_getElem?_getD, List.getElem?_eq_getElem h2]
 have hglt : g < w.heap.size := (Array.getElem?_eq_some_iff.1 hg).1
 have hcell : ∀ j, j < l.length * 5 → cur[j]? = some (flatK enc5 5 d)[j]! := by
  intro j hj
  have h1 := flat5_at d j (by omega)
  rw [← hcss, ← htake, List.getElem?_take, if_pos (by show j < l.length * 5; exact hj)] at h1
  simpa using h1
 have hH : HoldsK enc5 5 w g 0 d := by
  intro j hj
  rw [size_flatK, hds] at hj
  constructor
  ·simp only [World.cell?, hg, Nat.zero_add]
   exact hcell j hj
  ·simp [World.frozen?, hg]
 refine ⟨g, cap, d, by first | rfl | rw [hds], hds, hrb, hglt, hH, by omega, fun d' m os hp hs => ?_⟩
 have hpl := perm_of hp
 have hs1 : d'.size = d.size := hp.1
 have hk : Kept [] base w (sortWorldK enc5 5 w g 0 m d' os) := by
  refine ⟨size_sortWorldK_c _ _ _ _ _ _ _ _, fun b hb' hf => ?_⟩
  have hne : b ≠ g := by
   rintro rfl
   rcases hf with h | ⟨cur', t, ht, e⟩
   ·omega
   ·rw [hg] at e
    injection e with e
    injection e with _ e
    subst e
    exact absurd ht (by decide)
  unfold sortWorldK
  rw [heap_grow_old _ _ (by rw [size_putRowK]; exact hb')]
  show (Array.modify w.heap g _)[b]? = _
  rw [Array.getElem?_modify, if_neg (Ne.symm hne)]
 have hbel : Below rb w (sortWorldK enc5 5 w g 0 m d' os) := by
  refine ⟨rfl, rfl, rfl, size_sortWorldK_c _ _ _ _ _ _ _ _, fun b hb' => ?_⟩
  unfold sortWorldK
  rw [heap_grow_old _ _ (by rw [size_putRowK]; show b < w.heap.size; omega)]
  show (Array.modify w.heap g _)[b]? = _
  rw [Array.getElem?_modify, if_neg (by omega)]
 have hgn : (sortWorldK enc5 5 w g 0 m d' os).heap[g]? = some (.cells (putCells id 0 (flatK enc5 5 d') cur) 78 (0, 0)) := by
  unfold sortWorldK
  rw [heap_grow_old _ _ (by rw [size_putRowK]; exact hglt)]
  show (Array.modify w.heap g _)[g]? = _
  rw [Array.getElem?_modify, if_pos rfl, hg]
  rfl
 have hl' : (d'.toList.map (·.2)).length = l.length := by simp [hs1, hds]
 refine ⟨d'.toList.map (·.2), by rw [← hdl]; exact hpl.map _, sorted_of (by rw [hs1]; exact hs), ⟨d'.toList.map enc5, ⟨by simp, fun i hi => ?_⟩, ?_, ?_⟩, hbel⟩
 ·have hi' : i < d'.toList.length := by simpa using hi
  have hm : d'.toList[i] ∈ d.toList := hpl.subset (List.getElem_mem hi')
  obtain ⟨j, hj, hje⟩ := List.getElem_of_mem hm
  have hj' : j < l.length := by simpa [hds] using hj
  have h2 := hdi j hj'
  rw [getElem!_pos d j (by omega)] at h2
  have h3 : d'.toList[i] = (q j, l.getD j ⟨rZero, 0⟩) := by rw [← hje]; simpa using h2
  have e1 : (d'.toList.map enc5).getD i [] = enc5 (q j, l.getD j ⟨rZero, 0⟩) := by
   rw [List.getD_eq_getElem?_getD, List.getElem?_map, List.getElem?_eq_getElem hi', h3]; rfl
  have e2 : (d'.toList.map (·.2)).getD i ⟨rZero, 0⟩ = l.getD j ⟨rZero, 0⟩ := by
   rw [List.getD_eq_getElem?_getD, List.getElem?_map, List.getElem?_eq_getElem hi', h3]; rfl
  show eEnt.R _ ((d'.toList.map enc5).getD i []) ((d'.toList.map (·.2)).getD i ⟨rZero, 0⟩)
  rw [e1, e2]
  exact ⟨_, rfl, (hq j hj').2.kept hk⟩
 ·rw [flat5, hl']
  show d'.toList.length * 5 = l.length * 5
  simp [hs1, hds]
 ·refine .inr ⟨g, cap, _, by rw [hl'], hrb, hgn, by rw [hl']; exact hncap, hcm, by rw [← hsz]; simp [putCells], ?_⟩
  rw [hl']
  show List.take (l.length * 5) _ = _
  apply List.ext_getElem?
  intro j
  by_cases hj : j < l.length * 5
  ·rw [List.getElem?_take, if_pos hj, flat5_at d' j (by omega)]
   have := hcell j hj
   have hj2 : j < cur.size := (Array.getElem?_eq_some_iff.1 this).1
   rw [Array.getElem?_toList]
   unfold putCells
   rw [Array.getElem?_mapIdx, this]
   simp only [Option.map_some, Nat.zero_le, Nat.zero_add, size_flatK, true_and, Nat.sub_zero, id]
   rw [if_pos (by omega)]
  ·rw [List.getElem?_eq_none (by rw [List.length_take]; omega), List.getElem?_eq_none (by rw [flat5]; simp [hs1, hds]; omega)]
end Go.Proofs.YtdmnmfnmaccmoaaGreatDoor
