/- A region that draws its order and holds calls that make memory: one walk (or one for each order of its calls and allocs), the reads as early as may be. 
   An operation that only reads (true in the plan) is taken as soon as it may come up: it yields its value in every world that is as the world at hand was, but for new blocks; every other one leaves such a world (the last one may write, if all others come ahead of it).
   After the texts of Derived/OrdersHeld.lean and Derived/StillTail.lean. No program here. -/
import Derived.OrdersHeld
import Derived.Deep.RegionHeld3
import Derived.StillTail
import Derived.Test.YtnganglmpcbcbaaWords
namespace Go.Proofs.Ytnganglmpcbcbaa
open Go Go.RowKit
section
variable {P : Program} {ops : Array Oper} {Q : Exit → Act → World → Prop} {md : Region.Mode} {t : Bool} {X : World → World → Prop}

/-- Whatever order is picked from here on, behind each operation (but the last, under 't') the world is as it was, but for new blocks. -/
def wpAnyX (P : Program) (md : Region.Mode) (ops : Array Oper) (Q : Exit → Act → World → Prop) (X : World → World → Prop) (t : Bool) : Nat → Array Bool → Act → World → Prop
  | 0, listed, a, w => Region.ready md ops listed = [] ∧ Q .normal a w
  | fuel + 1, listed, a, w =>
    (Region.ready md ops listed = [] → Q .normal a w) ∧
    ∀ i ∈ Region.ready md ops listed, wpOp P ops Q i (fun a' w' => (fuel = 0 ∧ t = true ∨ X w w') ∧ wpAnyX P md ops Q X t fuel (listed.setIfInBounds i true) a' w') a w

theorem wpAny_of_X : ∀ (fuel : Nat) (listed : Array Bool) (a : Act) (w : World), wpAnyX P md ops Q X t fuel listed a w → wpAny P md ops Q fuel listed a w
  | 0, _, _, _, h => h
  | fuel + 1, _, _, _, h => ⟨h.1, fun i hi => wpOp_mono (fun a' w' h' => wpAny_of_X fuel _ a' w' h'.2) (h.2 i hi)⟩

/-- There is one that waits for it. -/
def waited (md : Region.Mode) (ops : Array Oper) (i : Nat) : Bool := (List.range ops.size).any fun k => Region.waitsFor md ops k i

structure Down (md : Region.Mode) (ops : Array Oper) (listed : Array Bool) : Prop where
  size : listed.size = ops.size
  closed : ∀ j oj, ops[j]? = some oj → listed.getD j false = true → ∀ e ∈ oj.after, Region.binds md e = true → listed.getD e.on false = true
theorem Down.set {i : Nat} {listed : Array Bool} (inv : Down md ops listed) (hi : i ∈ Region.ready md ops listed) : Down md ops (listed.setIfInBounds i true) := by
  obtain ⟨_, oi, hoi, hall⟩ := mem_ready.1 hi
  refine ⟨by simp [inv.size], fun j oj hj hl e he hb => ?_⟩
  by_cases hij : i = j
  · subst hij
    have : oj = oi := Option.some.inj (hj.symm.trans hoi)
    subst this
    exact getD_set_true (hall e he hb)
  · rw [getD_set_ne false hij] at hl
    exact getD_set_true (inv.closed j oj hj hl e he hb)

/-- How many have not come up. -/
def openN (listed : Array Bool) : Nat := (listed.toList.filter fun b => !b).length
theorem openN_set : ∀ (l : List Bool) (i : Nat), l[i]? = some false → ((l.set i true).filter fun b => !b).length + 1 = (l.filter fun b => !b).length
  | [], i, h => by simp at h
  | b :: l, 0, h => by
    simp at h
    subst h
    simp
  | b :: l, i + 1, h => by
    have := openN_set l i (by simpa using h)
    cases b
    · simp only [List.set_cons_succ, List.filter_cons, Bool.not_false, if_true, List.length_cons]; omega
    · simp only [List.set_cons_succ, List.filter_cons, Bool.not_true, Bool.false_eq_true, if_false]; exact this
theorem getD_false {listed : Array Bool} {i : Nat} (h : listed.getD i true = false) : listed.toList[i]? = some false := by
  rcases Nat.lt_or_ge i listed.size with h' | h'
  · simp [h'] at h ⊢; exact h
  · simp [Array.getElem?_eq_none h'] at h
theorem openN_listed {listed : Array Bool} {i : Nat} (h : listed.getD i true = false) : openN (listed.setIfInBounds i true) + 1 = openN listed := by
  unfold openN
  rw [Array.toList_setIfInBounds]
  exact openN_set _ _ (getD_false h)
theorem openN_zero {listed : Array Bool} (h : openN listed = 0) (k : Nat) : listed.getD k true = true := by
  cases hk : listed.getD k true with
  | true => rfl
  | false =>
    have := openN_listed hk
    omega

/-- In state 'a', in the world at hand and behind new blocks, 'o' yields v. -/
def YieldsX (P : Program) (ops : Array Oper) (X : World → World → Prop) (w : World) (o : Oper) (v : Value) (a : Act) : Prop := YieldsIf P ops (fun w' => X w w') o v a
theorem YieldsX.ext (htr : ∀ a b c, X a b → X b c → X a c) {w w' : World} {o : Oper} {v : Value} {a : Act} (h : YieldsX P ops X w o v a) (hx : X w w') : YieldsX P ops X w' o v a := by
  rcases h with ⟨h1, h2⟩ | h
  · exact .inl ⟨h1, fun w'' hx' => h2 w'' (htr _ _ _ hx hx')⟩
  · exact .inr h

/-- An operation that may come up now, and yields so, may be taken first. -/
theorem wpAnyX_first (hrf : ∀ w, X w w) (htr : ∀ a b c, X a b → X b c → X a c) {i : Nat} {oi : Oper} {v : Value} (hi : ops[i]? = some oi) (hsel : ∀ (j : Nat) (o : Oper) cs b, ops[j]? = some o → o.op ≠ .select cs b)
    (hQ : ∀ c a w, Q (.panic c) (a.put oi.dst v) w → Q (.panic c) a w) (hwait : t = true → waited md ops i = true) :
    ∀ (fuel : Nat) (listed : Array Bool) (a : Act) (w : World), Down md ops listed → openN listed = fuel + 1 →
      (∀ j oj, ops[j]? = some oj → j ≠ i → listed.getD j true = false → (∀ e ∈ oj.after, Region.binds md e = true → e.on ≠ i) → oi.apart ops oj = true) →
      i ∈ Region.ready md ops listed → YieldsX P ops X w oi v a →
      wpAnyX P md ops Q X t fuel (listed.setIfInBounds i true) (a.put oi.dst v) w → wpAnyX P md ops Q X t (fuel + 1) listed a w := by
  intro fuel
  induction fuel with
  | zero =>
    intro listed a w _ _ _ hr hy H
    refine ⟨fun h => (by rw [h] at hr; cases hr), fun j hj => ?_⟩
    by_cases hji : j = i
    · subst hji; exact hy.wpOp hi (hrf _) ⟨.inr (hrf _), H⟩
    · have := ready_mono hj hji
      rw [H.1] at this
      cases this
  | succ fuel ih =>
    intro listed a w inv hop hfree hr hy H
    refine ⟨fun h => (by rw [h] at hr; cases hr), fun j hj => ?_⟩
    by_cases hji : j = i
    · subst hji; exact hy.wpOp hi (hrf _) ⟨.inr (hrf _), H⟩
    · have h1 := H.2 j (ready_mono hj hji)
      obtain ⟨hjun, oj, hoj, hall⟩ := mem_ready.1 hj
      obtain ⟨hiun, oi', hoi', halli⟩ := mem_ready.1 hr
      have hnot : ∀ e ∈ oj.after, Region.binds md e = true → e.on ≠ i := fun e he hb heq => by
        have h1 := hall e he hb
        rw [heq, getD_both hiun] at h1
        cases h1
      -- the last one, and i is open still: somebody waits for i
      have hno : ¬ (fuel = 0 ∧ t = true) := by
        rintro ⟨h0, ht⟩
        subst h0
        have hw := hwait ht
        unfold waited at hw
        obtain ⟨k, hk, hkw⟩ := List.any_eq_true.1 hw
        obtain ⟨ok, hok, e, he, hb, hon⟩ := Region.waitsFor_spec hkw
        have o1 := openN_listed hiun
        have hj1 : (listed.setIfInBounds i true).getD j true = false := by rw [getD_set_ne true (Ne.symm hji)]; exact hjun
        have o2 := openN_listed hj1
        have h0 : openN ((listed.setIfInBounds i true).setIfInBounds j true) = 0 := by omega
        have hkt := openN_zero h0 k
        by_cases hki : k = i
        · subst hki
          have : ok = oi' := Option.some.inj (hok.symm.trans hoi')
          subst this
          have := halli e he hb
          rw [hon, getD_both hiun] at this
          cases this
        · by_cases hkj : k = j
          · subst hkj
            have : ok = oj := Option.some.inj (hok.symm.trans hoj)
            subst this
            exact hnot e he hb hon
          · rw [getD_set_ne true (Ne.symm hkj), getD_set_ne true (Ne.symm hki)] at hkt
            have hks : k < listed.size := by rw [inv.size]; exact List.mem_range.1 hk
            have hkl : listed.getD k false = true := by
              simp [hks] at hkt ⊢; exact hkt
            have := inv.closed k ok hok hkl e he hb
            rw [hon, getD_both hiun] at this
            cases this
      have h2 := wpOp_putIf hoj (hfree j oj hoj hji hjun hnot) (fun cs b => hsel i oi cs b hi) (fun cs b => hsel j oj cs b hoj) hQ hy h1
      have hfree' : ∀ k ok, ops[k]? = some ok → k ≠ i → (listed.setIfInBounds j true).getD k true = false →
          (∀ e ∈ ok.after, Region.binds md e = true → e.on ≠ i) → oi.apart ops ok = true := fun k ok hk hki hun hno => by
        refine hfree k ok hk hki ?_ hno
        by_cases hjk : j = k
        · subst hjk; exact hjun
        · rw [getD_set_ne true hjk] at hun; exact hun
      refine wpOp_mono (fun a' w' h3 => ?_) h2
      have hx : X w w' := h3.2.1.resolve_left hno
      refine ⟨.inr hx, ih (listed.setIfInBounds j true) a' w' (inv.set hj) (by have := openN_listed hjun; omega) hfree' (ready_mono hr (Ne.symm hji)) (YieldsX.ext htr (w := w) h3.1 hx) ?_⟩
      rw [Array.setIfInBounds_comm _ _ hji]
      exact h3.2.2

/-- Which of the reads 'Fs' is taken next. -/
def pickF (md : Region.Mode) (ops : Array Oper) (t : Bool) (Fs : List Nat) (listed : Array Bool) : Option Nat :=
  (Region.ready md ops listed).find? fun i => Fs.contains i && Region.free md ops listed i && (!t || waited md ops i)

/-- The walk: a read as soon as it may come up; else whichever may. -/
def wpTree (P : Program) (md : Region.Mode) (ops : Array Oper) (Q : Exit → Act → World → Prop) (X : World → World → Prop) (t : Bool) (Fs : List Nat) : Nat → Array Bool → Act → World → Prop
  | 0, listed, a, w => Region.ready md ops listed = [] ∧ Q .normal a w
  | f + 1, listed, a, w =>
    match pickF md ops t Fs listed with
    | some i => ∃ o, ops[i]? = some o ∧ ∃ v, YieldsX P ops X w o v a ∧ wpTree P md ops Q X t Fs f (listed.setIfInBounds i true) (a.put o.dst v) w
    | none => (Region.ready md ops listed = [] → Q .normal a w) ∧
      ∀ i ∈ Region.ready md ops listed, wpOp P ops Q i (fun a' w' => (f = 0 ∧ t = true ∨ X w w') ∧ wpTree P md ops Q X t Fs f (listed.setIfInBounds i true) a' w') a w

theorem wpAnyX_of_tree (hrf : ∀ w, X w w) (htr : ∀ a b c, X a b → X b c → X a c) {Fs : List Nat} (hs : Region.noSelect ops = true) (hQ : ∀ c a a' w, Q (.panic c) a w → Q (.panic c) a' w) : ∀ (f : Nat) (listed : Array Bool) (a : Act) (w : World),
    Down md ops listed → openN listed = f → wpTree P md ops Q X t Fs f listed a w → wpAnyX P md ops Q X t f listed a w := by
  intro f
  induction f with
  | zero => intro listed a w _ _ h; exact h
  | succ f ih =>
    intro listed a w inv hop h
    unfold wpTree at h
    split at h
    · rename_i i hp
      obtain ⟨o, ho, v, hy, h⟩ := h
      have h1 := List.mem_of_find?_eq_some hp
      have h2 := List.find?_some hp
      simp only [Bool.and_eq_true, Bool.or_eq_true] at h2
      refine wpAnyX_first hrf htr ho (Region.noSelect_spec hs) (fun c a' w' => hQ c _ _ w') (fun ht => ?_) f listed a w inv hop (Region.free_spec ho h2.1.2) h1 hy
        (ih _ _ _ (inv.set h1) (by have := openN_listed (mem_ready.1 h1).1; omega) h)
      subst ht
      simpa using h2.2
    · refine ⟨h.1, fun i hi => ?_⟩
      have hop' : openN (listed.setIfInBounds i true) = f := by have := openN_listed (mem_ready.1 hi).1; omega
      exact wpOp_mono (fun a' w' hh => ⟨hh.1, ih _ _ _ (inv.set hi) hop' hh.2⟩) (h.2 i hi)

theorem openN_replicate : ∀ n, openN (Array.replicate n false) = n := fun n => by
  unfold openN
  simp

/-- The beginning: Fs: the reads; t: may the last operation write? -/
theorem wp_region_mix (X : World → World → Prop) (hrf : ∀ w, X w w) (htr : ∀ a b c, X a b → X b c → X a c) {id : Nat} {a : Act} {w : World} {l : List Oper} (n : Nat) (Fs : List Nat) (t : Bool) (hn : l.length = n) (hm : P.follows .mixedOrders = true) (hs : Region.noSelect l.toArray = true)
    (h : wpTree P .any l.toArray (NoPanic Q) X t Fs n (Array.replicate n false) a w.drew) : (Code.region id l.toArray true).wp P Q a w := by
  subst hn
  refine wp_region_noPanic (wp_region_any hm ?_)
  have h0 : l.toArray.size = l.length := by simp
  rw [h0]
  exact wpAny_of_X _ _ _ _ (wpAnyX_of_tree hrf htr hs (fun c a a' w h => h) _ _ _ _ ⟨by simp, fun j oj _ hl => (by rw [getD_replicate_false] at hl; cases hl)⟩ (openN_replicate _) h)

/-- X: nothing that is there turns. -/
theorem wp_region_ext {id : Nat} {a : Act} {w : World} {l : List Oper} (n : Nat) (Fs : List Nat) (t : Bool) (hn : l.length = n) (hm : P.follows .mixedOrders = true) (hs : Region.noSelect l.toArray = true)
    (h : wpTree P .any l.toArray (NoPanic Q) (fun w w' => Below w.heap.size w w') t Fs n (Array.replicate n false) a w.drew) : (Code.region id l.toArray true).wp P Q a w :=
  wp_region_mix _ (fun _ => Below.refl _ _) (fun _ _ _ h k => ext_trans h k) n Fs t hn hm hs h
/-- X: below block B nothing turns. -/
theorem wp_region_below (B : Nat) {id : Nat} {a : Act} {w : World} {l : List Oper} (n : Nat) (Fs : List Nat) (t : Bool) (hn : l.length = n) (hm : P.follows .mixedOrders = true) (hs : Region.noSelect l.toArray = true)
    (h : wpTree P .any l.toArray (NoPanic Q) (fun w w' => Below B w w') t Fs n (Array.replicate n false) a w.drew) : (Code.region id l.toArray true).wp P Q a w :=
  wp_region_mix _ (fun _ => Below.refl _ _) (fun _ _ _ h k => h.trans k) n Fs t hn hm hs h

section
variable {l : List Oper} {Fs : List Nat} {f : Nat} {listed : Array Bool} {a : Act} {w : World}
theorem mixF (i : Nat) {o : Oper} {v : Value} (hp : pickF md l.toArray t Fs listed = some i) (ho : l[i]? = some o)
    (hw : Region.wanted o (yielded l.toArray a.tmps) = true) (hy : ∀ w', X w w' → (execOp a.eval o).run P w' = .ok (.value v) w')
    (h : wpTree P md l.toArray Q X t Fs f (listed.setIfInBounds i true) (a.put o.dst v) w) : wpTree P md l.toArray Q X t Fs (f + 1) listed a w := by
  unfold wpTree
  rw [hp]
  exact ⟨o, by simpa using ho, v, .inl ⟨hw, hy⟩, h⟩
theorem mixFskip (i : Nat) {o : Oper} (hp : pickF md l.toArray t Fs listed = some i) (ho : l[i]? = some o)
    (hw : Region.wanted o (yielded l.toArray a.tmps) = false)
    (h : wpTree P md l.toArray Q X t Fs f (listed.setIfInBounds i true) (a.put o.dst undef) w) : wpTree P md l.toArray Q X t Fs (f + 1) listed a w := by
  unfold wpTree
  rw [hp]
  exact ⟨o, by simpa using ho, undef, .inr ⟨hw, rfl⟩, h⟩
theorem mix_op {i : Nat} {o : Oper} {K : Act → World → Prop} (ho : l[i]? = some o) (hw : Region.wanted o (yielded l.toArray a.tmps) = true) (h : o.wp P a w K Q) : wpOp P l.toArray Q i K a w := by
  have ho' : l.toArray[i]? = some o := by simpa using ho
  unfold wpOp
  simp only [ho']
  rw [if_pos hw]
  exact .inl h
/-- One that is no read comes up alone. -/
theorem mixS (i : Nat) {o : Oper} (hp : pickF md l.toArray t Fs listed = none) (hr : Region.ready md l.toArray listed = [i]) (ho : l[i]? = some o)
    (hw : Region.wanted o (yielded l.toArray a.tmps) = true)
    (h : ∀ K : Act → World → Prop, Shut (∀ a' w', X w w' → wpTree P md l.toArray Q X t Fs f (listed.setIfInBounds i true) a' w' → K a' w') → o.wp P a w K Q) : wpTree P md l.toArray Q X t Fs (f + 1) listed a w := by
  unfold wpTree
  rw [hp]
  refine ⟨fun h0 => (by rw [hr] at h0; cases h0), fun j hj => ?_⟩
  rw [hr] at hj
  obtain rfl : j = i := by simpa using hj
  exact mix_op ho hw (h _ fun a' w' h1 h2 => ⟨.inr h1, h2⟩)
/-- One of two comes up. -/
theorem mixS2 (i j : Nat) {o o' : Oper} (hp : pickF md l.toArray t Fs listed = none) (hr : Region.ready md l.toArray listed = [i, j]) (ho : l[i]? = some o) (ho' : l[j]? = some o')
    (hw : Region.wanted o (yielded l.toArray a.tmps) = true) (hw' : Region.wanted o' (yielded l.toArray a.tmps) = true)
    (h : ∀ K : Act → World → Prop, Shut (∀ a' w', X w w' → wpTree P md l.toArray Q X t Fs f (listed.setIfInBounds i true) a' w' → K a' w') → o.wp P a w K Q)
    (h' : ∀ K : Act → World → Prop, Shut (∀ a' w', X w w' → wpTree P md l.toArray Q X t Fs f (listed.setIfInBounds j true) a' w' → K a' w') → o'.wp P a w K Q) : wpTree P md l.toArray Q X t Fs (f + 1) listed a w := by
  unfold wpTree
  rw [hp]
  refine ⟨fun h0 => (by rw [hr] at h0; cases h0), fun k hk => ?_⟩
  rw [hr] at hk
  simp only [List.mem_cons, List.not_mem_nil, or_false] at hk
  rcases hk with rfl | rfl
  · exact mix_op ho hw (h _ fun a' w' h1 h2 => ⟨.inr h1, h2⟩)
  · exact mix_op ho' hw' (h' _ fun a' w' h1 h2 => ⟨.inr h1, h2⟩)
/-- The last one: it may write. -/
theorem mixLast (i : Nat) {o : Oper} (hp : pickF md l.toArray true Fs listed = none) (hr : Region.ready md l.toArray listed = [i]) (he : Region.ready md l.toArray (listed.setIfInBounds i true) = []) (ho : l[i]? = some o)
    (hw : Region.wanted o (yielded l.toArray a.tmps) = true)
    (h : ∀ K : Act → World → Prop, (∀ a' w', Q .normal a' w' → K a' w') → o.wp P a w K Q) : wpTree P md l.toArray Q X true Fs 1 listed a w := by
  unfold wpTree
  rw [hp]
  refine ⟨fun h0 => (by rw [hr] at h0; cases h0), fun j hj => ?_⟩
  rw [hr] at hj
  obtain rfl : j = i := by simpa using hj
  exact mix_op ho hw (h _ fun a' w' h1 => ⟨.inl ⟨rfl, rfl⟩, he, h1⟩)
theorem mixEnd (hr : Region.ready md l.toArray listed = []) (h : Q .normal a w) : wpTree P md l.toArray (NoPanic Q) X t Fs 0 listed a w := ⟨hr, h⟩
end

end
end Go.Proofs.Ytnganglmpcbcbaa
