/- A region that draws its order and ends in a store, beside operations Us that yield in whatever world: as XMix, but the store may come ahead of them. No program here. -/
import Derived.Test.YtdmnmfnmaccmoaaGreatDoorG1
namespace Go.Proofs.YtdmnmfnmaccmoaaGreatDoor
open Go Go.RowKit
section
variable {P : Program} {ops : Array Oper} {Q : Exit → Act → World → Prop} {md : Region.Mode} {X : World → World → Prop} {Us : List Nat}
def onlyU (Us : List Nat) (ops : Array Oper) (listed : Array Bool) : Bool := (List.range ops.size).all fun k => listed.getD k true || Us.contains k
def waitedU (md : Region.Mode) (ops : Array Oper) (Us : List Nat) (i : Nat) : Bool := (List.range ops.size).any fun k => Region.waitsFor md ops k i && !Us.contains k
def wpAnyU (P : Program) (md : Region.Mode) (ops : Array Oper) (Q : Exit → Act → World → Prop) (X : World → World → Prop) (Us : List Nat) : Nat → Array Bool → Act → World → Prop
 | 0, listed, a, w => Region.ready md ops listed = [] ∧ Q .normal a w
 | fuel + 1, listed, a, w =>
  (Region.ready md ops listed = [] → Q .normal a w) ∧
  ∀ i ∈ Region.ready md ops listed, wpOp P ops Q i (fun a' w' => (onlyU Us ops (listed.setIfInBounds i true) = true ∨ X w w') ∧ wpAnyU P md ops Q X Us fuel (listed.setIfInBounds i true) a' w') a w
theorem wpAny_of_U : ∀ (fuel : Nat) (listed : Array Bool) (a : Act) (w : World), wpAnyU P md ops Q X Us fuel listed a w → wpAny P md ops Q fuel listed a w
 | 0, _, _, _, h => h
 | fuel + 1, _, _, _, h => ⟨h.1, fun i hi => wpOp_mono (fun a' w' h' => wpAny_of_U fuel _ a' w' h'.2) (h.2 i hi)⟩
def YieldsU (P : Program) (ops : Array Oper) (X : World → World → Prop) (u : Bool) (w : World) (o : Oper) (v : Value) (a : Act) : Prop := YieldsIf P ops (fun w' => u = true ∨ X w w') o v a
theorem YieldsU.ext (htr : ∀ a b c, X a b → X b c → X a c) {u : Bool} {w w' : World} {o : Oper} {v : Value} {a : Act} (h : YieldsU P ops X u w o v a) (hx : u = true ∨ X w w') : YieldsU P ops X u w' o v a := by
 rcases h with ⟨h1, h2⟩ | h
 ·exact .inl ⟨h1, fun w'' hx' => h2 w'' (by
   rcases hx with hx | hx
   ·exact .inl hx
   ·rcases hx' with hx' | hx'
    ·exact .inl hx'
    ·exact .inr (htr _ _ _ hx hx'))⟩
 ·exact .inr h
theorem onlyU_spec {listed : Array Bool} (h : onlyU Us ops listed = true) {k : Nat} (hk : k < ops.size) : listed.getD k true = true ∨ Us.contains k = true := by
 have := List.all_eq_true.1 h k (List.mem_range.2 hk)
 simpa using this
theorem getD_unset {listed : Array Bool} {i k : Nat} (h : (listed.setIfInBounds i true).getD k true = true) (hk : k ≠ i) : listed.getD k true = true := by rwa [getD_set_ne true (Ne.symm hk)] at h
theorem wpAnyU_first (hrf : ∀ w, X w w) (htr : ∀ a b c, X a b → X b c → X a c) {i : Nat} {oi : Oper} {v : Value} (hi : ops[i]? = some oi) (hsel : ∀ (j : Nat) (o : Oper) cs b, ops[j]? = some o → o.op ≠ .select cs b)
  (hQ : ∀ c a w, Q (.panic c) (a.put oi.dst v) w → Q (.panic c) a w) (hwait : Us.contains i = true ∨ waitedU md ops Us i = true) :
  ∀ (fuel : Nat) (listed : Array Bool) (a : Act) (w : World), Down md ops listed →
   (∀ j oj, ops[j]? = some oj → j ≠ i → listed.getD j true = false → (∀ e ∈ oj.after, Region.binds md e = true → e.on ≠ i) → oi.apart ops oj = true) →
   i ∈ Region.ready md ops listed → YieldsU P ops X (Us.contains i) w oi v a →
   wpAnyU P md ops Q X Us fuel (listed.setIfInBounds i true) (a.put oi.dst v) w → wpAnyU P md ops Q X Us (fuel + 1) listed a w := by
 intro fuel
 induction fuel with
 | zero =>
  intro listed a w _ _ hr hy H
  refine ⟨fun h => (by rw [h] at hr; cases hr), fun j hj => ?_⟩
  by_cases hji : j = i
  ·subst hji; exact hy.wpOp hi (.inr (hrf _)) ⟨.inr (hrf _), H⟩
  ·have := ready_mono hj hji
   rw [H.1] at this
   cases this
 | succ fuel ih =>
  intro listed a w inv hfree hr hy H
  refine ⟨fun h => (by rw [h] at hr; cases hr), fun j hj => ?_⟩
  by_cases hji : j = i
  ·subst hji; exact hy.wpOp hi (.inr (hrf _)) ⟨.inr (hrf _), H⟩
  ·have h1 := H.2 j (ready_mono hj hji)
   obtain ⟨hjun, oj, hoj, hall⟩ := mem_ready.1 hj
   obtain ⟨hiun, oi', hoi', halli⟩ := mem_ready.1 hr
   have hjs : j < ops.size := (Array.getElem?_eq_some_iff.1 hoj).1
   have his : i < ops.size := (Array.getElem?_eq_some_iff.1 hoi').1
   have hnot : ∀ e ∈ oj.after, Region.binds md e = true → e.on ≠ i := fun e he hb heq => by
    have h1 := hall e he hb
    rw [heq, getD_both hiun] at h1
    cases h1
   -- what the step of j is granted
   have hgrant : ∀ w', (onlyU Us ops ((listed.setIfInBounds i true).setIfInBounds j true) = true ∨ X w w') → (onlyU Us ops (listed.setIfInBounds j true) = true ∨ X w w') ∧ (Us.contains i = true ∨ X w w') := by
    intro w' h
    rcases h with h | h
    ·rcases hwait with hu | hw
     ·refine ⟨.inl ?_, .inl hu⟩
      unfold onlyU
      rw [List.all_eq_true]
      intro k hk
      have hk' := List.mem_range.1 hk
      by_cases hki : k = i
      ·subst hki
       simp only [hu, Bool.or_true]
      ·rcases onlyU_spec h hk' with h | h
       ·by_cases hkj : k = j
        ·subst hkj
         have : (listed.setIfInBounds k true).getD k true = true := by
          have : k < listed.size := by rw [inv.size]; exact hk'
          simp [this]
         rw [this]; rfl
        ·have := getD_unset (getD_unset h hkj) hki
         rw [getD_set_ne true (Ne.symm hkj), this]; rfl
       ·rw [h, Bool.or_true]
     ·exfalso
      unfold waitedU at hw
      obtain ⟨k, hk, hkw⟩ := List.any_eq_true.1 hw
      rw [Bool.and_eq_true] at hkw
      obtain ⟨ok, hok, e, he, hb, hon⟩ := Region.waitsFor_spec hkw.1
      have hku : Us.contains k = false := by simpa using hkw.2
      have hks := List.mem_range.1 hk
      have hki : k ≠ i := by
       intro e0
       subst e0
       have : ok = oi' := Option.some.inj (hok.symm.trans hoi')
       subst this
       have := halli e he hb
       rw [hon, getD_both hiun] at this
       cases this
      have hkj : k ≠ j := by
       intro e0
       subst e0
       have : ok = oj := Option.some.inj (hok.symm.trans hoj)
       subst this
       exact hnot e he hb hon
      rcases onlyU_spec h hks with h | h
      ·have h := getD_unset (getD_unset h hkj) hki
       have hkl : listed.getD k false = true := by
        have : k < listed.size := by rw [inv.size]; exact hks
        simp [this] at h ⊢; exact h
       have := inv.closed k ok hok hkl e he hb
       rw [hon, getD_both hiun] at this
       cases this
      ·rw [hku] at h; cases h
    ·exact ⟨.inr h, .inr h⟩
   have h2 := wpOp_putIf hoj (hfree j oj hoj hji hjun hnot) (fun cs b => hsel i oi cs b hi) (fun cs b => hsel j oj cs b hoj) hQ hy h1
   have hfree' : ∀ k ok, ops[k]? = some ok → k ≠ i → (listed.setIfInBounds j true).getD k true = false →
     (∀ e ∈ ok.after, Region.binds md e = true → e.on ≠ i) → oi.apart ops ok = true := fun k ok hk hki hun hno => by
    refine hfree k ok hk hki ?_ hno
    by_cases hjk : j = k
    ·subst hjk; exact hjun
    ·rw [getD_set_ne true hjk] at hun; exact hun
   refine wpOp_mono (fun a' w' h3 => ?_) h2
   obtain ⟨g1, g2⟩ := hgrant w' h3.2.1
   refine ⟨g1, ih (listed.setIfInBounds j true) a' w' (inv.set hj) hfree' (ready_mono hr (Ne.symm hji)) (YieldsU.ext htr (w := w) h3.1 g2) ?_⟩
   rw [Array.setIfInBounds_comm _ _ hji]
   exact h3.2.2
def pickU (md : Region.Mode) (ops : Array Oper) (Us Fs : List Nat) (listed : Array Bool) : Option Nat :=
 (Region.ready md ops listed).find? fun i => Fs.contains i && Region.free md ops listed i && (Us.contains i || waitedU md ops Us i)
def wpTreeU (P : Program) (md : Region.Mode) (ops : Array Oper) (Q : Exit → Act → World → Prop) (X : World → World → Prop) (Us Fs : List Nat) : Nat → Array Bool → Act → World → Prop
 | 0, listed, a, w => Region.ready md ops listed = [] ∧ Q .normal a w
 | f + 1, listed, a, w =>
  match pickU md ops Us Fs listed with
  | some i => ∃ o, ops[i]? = some o ∧ ∃ v, YieldsU P ops X (Us.contains i) w o v a ∧ wpTreeU P md ops Q X Us Fs f (listed.setIfInBounds i true) (a.put o.dst v) w
  | none => (Region.ready md ops listed = [] → Q .normal a w) ∧
   ∀ i ∈ Region.ready md ops listed, wpOp P ops Q i (fun a' w' => (onlyU Us ops (listed.setIfInBounds i true) = true ∨ X w w') ∧ wpTreeU P md ops Q X Us Fs f (listed.setIfInBounds i true) a' w') a w
theorem wpAnyU_of_tree (hrf : ∀ w, X w w) (htr : ∀ a b c, X a b → X b c → X a c) {Fs : List Nat} (hs : Region.noSelect ops = true) (hQ : ∀ c a a' w, Q (.panic c) a w → Q (.panic c) a' w) : ∀ (f : Nat) (listed : Array Bool) (a : Act) (w : World),
  Down md ops listed → wpTreeU P md ops Q X Us Fs f listed a w → wpAnyU P md ops Q X Us f listed a w := by
 intro f
 induction f with
 | zero => intro listed a w _ h; exact h
 | succ f ih =>
  intro listed a w inv h
  unfold wpTreeU at h
  split at h
  ·rename_i i hp
   obtain ⟨o, ho, v, hy, h⟩ := h
   have h1 := List.mem_of_find?_eq_some hp
   have h2 := List.find?_some hp
   simp only [Bool.and_eq_true, Bool.or_eq_true] at h2
   exact wpAnyU_first hrf htr ho (Region.noSelect_spec hs) (fun c a' w' => hQ c _ _ w') h2.2 f listed a w inv (Region.free_spec ho h2.1.2) h1 hy (ih _ _ _ (inv.set h1) h)
  ·refine ⟨h.1, fun i hi => ?_⟩
   exact wpOp_mono (fun a' w' hh => ⟨hh.1, ih _ _ _ (inv.set hi) hh.2⟩) (h.2 i hi)
theorem wp_region_u (X : World → World → Prop) (hrf : ∀ w, X w w) (htr : ∀ a b c, X a b → X b c → X a c) {id : Nat} {a : Act} {w : World} {l : List Oper} (n : Nat) (Us Fs : List Nat) (hn : l.length = n) (hm : P.follows .mixedOrders = true) (hs : Region.noSelect l.toArray = true)
  (h : wpTreeU P .any l.toArray (NoPanic Q) X Us Fs n (Array.replicate n false) a w.drew) : (Code.region id l.toArray true).wp P Q a w := by
 subst hn
 refine wp_region_noPanic (wp_region_any hm ?_)
 have h0 : l.toArray.size = l.length := by simp
 rw [h0]
 exact wpAny_of_U _ _ _ _ (wpAnyU_of_tree hrf htr hs (fun c a a' w h => h) _ _ _ _ ⟨by simp, fun j oj _ hl => (by rw [getD_replicate_false] at hl; cases hl)⟩ h)
theorem wp_region_ue {id : Nat} {a : Act} {w : World} {l : List Oper} (n : Nat) (Us Fs : List Nat) (hn : l.length = n) (hm : P.follows .mixedOrders = true) (hs : Region.noSelect l.toArray = true)
  (h : wpTreeU P .any l.toArray (NoPanic Q) (fun w w' => Below w.heap.size w w') Us Fs n (Array.replicate n false) a w.drew) : (Code.region id l.toArray true).wp P Q a w :=
 wp_region_u _ (fun _ => Below.refl _ _) (fun _ _ _ h k => ext_trans h k) n Us Fs hn hm hs h
section
variable {l : List Oper} {Fs : List Nat} {f : Nat} {listed : Array Bool} {a : Act} {w : World}
theorem uF (i : Nat) {o : Oper} {v : Value} (hp : pickU md l.toArray Us Fs listed = some i) (ho : l[i]? = some o)
  (hw : Region.wanted o (yielded l.toArray a.tmps) = true) (hu : Us.contains i = false) (hy : ∀ w', X w w' → (execOp a.eval o).run P w' = .ok (.value v) w')
  (h : wpTreeU P md l.toArray Q X Us Fs f (listed.setIfInBounds i true) (a.put o.dst v) w) : wpTreeU P md l.toArray Q X Us Fs (f + 1) listed a w := by
 unfold wpTreeU
 rw [hp]
 refine ⟨o, by simpa using ho, v, .inl ⟨hw, fun w' hx => hy w' ?_⟩, h⟩
 rw [hu] at hx
 rcases hx with hx | hx
 ·cases hx
 ·exact hx
theorem uU (i : Nat) {o : Oper} {v : Value} (hp : pickU md l.toArray Us Fs listed = some i) (ho : l[i]? = some o)
  (hw : Region.wanted o (yielded l.toArray a.tmps) = true) (hy : ∀ w', (execOp a.eval o).run P w' = .ok (.value v) w')
  (h : wpTreeU P md l.toArray Q X Us Fs f (listed.setIfInBounds i true) (a.put o.dst v) w) : wpTreeU P md l.toArray Q X Us Fs (f + 1) listed a w := by
 unfold wpTreeU
 rw [hp]
 exact ⟨o, by simpa using ho, v, .inl ⟨hw, fun w' _ => hy w'⟩, h⟩
theorem uS (i : Nat) {o : Oper} (hp : pickU md l.toArray Us Fs listed = none) (hr : Region.ready md l.toArray listed = [i]) (ho : l[i]? = some o)
  (hw : Region.wanted o (yielded l.toArray a.tmps) = true)
  (h : ∀ K : Act → World → Prop, Shut (∀ a' w', X w w' → wpTreeU P md l.toArray Q X Us Fs f (listed.setIfInBounds i true) a' w' → K a' w') → o.wp P a w K Q) : wpTreeU P md l.toArray Q X Us Fs (f + 1) listed a w := by
 unfold wpTreeU
 rw [hp]
 refine ⟨fun h0 => (by rw [hr] at h0; cases h0), fun j hj => ?_⟩
 rw [hr] at hj
 obtain rfl : j = i := by simpa using hj
 exact mix_op ho hw (h _ fun a' w' h1 h2 => ⟨.inr h1, h2⟩)
theorem uL (i : Nat) {o : Oper} (hp : pickU md l.toArray Us Fs listed = none) (hr : Region.ready md l.toArray listed = [i]) (hU : onlyU Us l.toArray (listed.setIfInBounds i true) = true) (ho : l[i]? = some o)
  (hw : Region.wanted o (yielded l.toArray a.tmps) = true)
  (h : ∀ K : Act → World → Prop, Shut (∀ a' w', wpTreeU P md l.toArray Q X Us Fs f (listed.setIfInBounds i true) a' w' → K a' w') → o.wp P a w K Q) : wpTreeU P md l.toArray Q X Us Fs (f + 1) listed a w := by
 unfold wpTreeU
 rw [hp]
 refine ⟨fun h0 => (by rw [hr] at h0; cases h0), fun j hj => ?_⟩
 rw [hr] at hj
 obtain rfl : j = i := by simpa using hj
 exact mix_op ho hw (h _ fun a' w' h2 => ⟨.inl hU, h2⟩)
theorem uEnd (hr : Region.ready md l.toArray listed = []) (h : Q .normal a w) : wpTreeU P md l.toArray (NoPanic Q) X Us Fs 0 listed a w := ⟨hr, h⟩
end
end
end Go.Proofs.YtdmnmfnmaccmoaaGreatDoor
