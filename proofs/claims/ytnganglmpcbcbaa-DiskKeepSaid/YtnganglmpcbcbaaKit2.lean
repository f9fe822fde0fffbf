/- append onto a row of the call's own, element by element, kind by kind. -/
import Derived.Test.YtnganglmpcbcbaaKit
namespace Go.Proofs.Ytnganglmpcbcbaa
open Go Go.RowKit

section
variable {o : Oper} {a : Act} {K : Act → World → Prop} {Q : Exit → Act → World → Prop}
theorem wpo_blk {w : World} (s x : Operand)
    (ho : o.op = .call { callee := .builtin .append, args := #[s, x], argTypes := #[43, 43] })
    {rb base : Nat} {v : Value} {xs : List (List UInt8)} (hs : a.eval s = v) (hown : OwnRow eBlk w rb base v xs)
    {B : Nat} {A : Option Addr} {c : Nat} {cs : List Value} {y : List UInt8} (hx : a.eval x = .slice A 1 c) (hr : Sl w B 1 A 1 c cs) (hc : eBlk.R (ByT w base) cs y)
    (hlim : xs.length + 1 ≤ lim) (hbase : rb ≤ w.heap.size) (hb : base ≤ rb)
    (h : ∀ v' w', OwnRow eBlk w' rb base v' (xs ++ [y]) → w.grownBy w' v.ownBlock → Below rb w w' → K (a.put o.dst v') w') : o.wp Try.prog a w K Q := by
  obtain ⟨css, hc0, ho0⟩ := hown
  exact wp_app_blk s x ho rb v xs.length css.flatten hs ho0 B A 1 c cs hx hr (eBlk.one ByT.one hc) hlim hbase fun v' w' h2 h3 h4 _ => h v' w' (OwnRow.app hc0 ho0 (Cs.single hc) (by rw [show [cs].flatten = cs by simp]; exact h2) h3 (by decide) hb) h3 h4
theorem wpl_blk {ops : Array Oper} {rest : List Oper} {w : World} (hgd : o.guard = none) (s x : Operand)
    (ho : o.op = .call { callee := .builtin .append, args := #[s, x], argTypes := #[43, 43] })
    {rb base : Nat} {v : Value} {xs : List (List UInt8)} (hs : a.eval s = v) (hown : OwnRow eBlk w rb base v xs)
    {B : Nat} {A : Option Addr} {c : Nat} {cs : List Value} {y : List UInt8} (hx : a.eval x = .slice A 1 c) (hr : Sl w B 1 A 1 c cs) (hc : eBlk.R (ByT w base) cs y)
    (hlim : xs.length + 1 ≤ lim) (hbase : rb ≤ w.heap.size) (hb : base ≤ rb)
    (h : ∀ v' w', OwnRow eBlk w' rb base v' (xs ++ [y]) → w.grownBy w' v.ownBlock → Below rb w w' → wpList Try.prog ops Q rest (a.put o.dst v') w') : wpList Try.prog ops Q (o :: rest) a w :=
  wpList_plain hgd fun _ hK => wpo_blk s x ho hs hown hx hr hc hlim hbase hb fun v' w' h2 h3 h4 => hK _ _ (h v' w' h2 h3 h4)
end
section
variable {o : Oper} {a : Act} {K : Act → World → Prop} {Q : Exit → Act → World → Prop}
theorem wpo_wr {w : World} (s x : Operand)
    (ho : o.op = .call { callee := .builtin .append, args := #[s, x], argTypes := #[44, 44] })
    {rb base : Nat} {v : Value} {xs : List (Int × List UInt8)} (hs : a.eval s = v) (hown : OwnRow eWr w rb base v xs)
    {B : Nat} {A : Option Addr} {c : Nat} {cs : List Value} {y : Int × List UInt8} (hx : a.eval x = .slice A 1 c) (hr : Sl w B 2 A 1 c cs) (hc : eWr.R (ByT w base) cs y)
    (hlim : xs.length + 1 ≤ lim) (hbase : rb ≤ w.heap.size) (hb : base ≤ rb)
    (h : ∀ v' w', OwnRow eWr w' rb base v' (xs ++ [y]) → w.grownBy w' v.ownBlock → Below rb w w' → K (a.put o.dst v') w') : o.wp Try.prog a w K Q := by
  obtain ⟨css, hc0, ho0⟩ := hown
  exact wp_app_wr s x ho rb v xs.length css.flatten hs ho0 B A 1 c cs hx hr (eWr.one ByT.one hc) hlim hbase fun v' w' h2 h3 h4 _ => h v' w' (OwnRow.app hc0 ho0 (Cs.single hc) (by rw [show [cs].flatten = cs by simp]; exact h2) h3 (by decide) hb) h3 h4
theorem wpl_wr {ops : Array Oper} {rest : List Oper} {w : World} (hgd : o.guard = none) (s x : Operand)
    (ho : o.op = .call { callee := .builtin .append, args := #[s, x], argTypes := #[44, 44] })
    {rb base : Nat} {v : Value} {xs : List (Int × List UInt8)} (hs : a.eval s = v) (hown : OwnRow eWr w rb base v xs)
    {B : Nat} {A : Option Addr} {c : Nat} {cs : List Value} {y : Int × List UInt8} (hx : a.eval x = .slice A 1 c) (hr : Sl w B 2 A 1 c cs) (hc : eWr.R (ByT w base) cs y)
    (hlim : xs.length + 1 ≤ lim) (hbase : rb ≤ w.heap.size) (hb : base ≤ rb)
    (h : ∀ v' w', OwnRow eWr w' rb base v' (xs ++ [y]) → w.grownBy w' v.ownBlock → Below rb w w' → wpList Try.prog ops Q rest (a.put o.dst v') w') : wpList Try.prog ops Q (o :: rest) a w :=
  wpList_plain hgd fun _ hK => wpo_wr s x ho hs hown hx hr hc hlim hbase hb fun v' w' h2 h3 h4 => hK _ _ (h v' w' h2 h3 h4)
end
section
variable {o : Oper} {a : Act} {K : Act → World → Prop} {Q : Exit → Act → World → Prop}
theorem wpo_rec {w : World} (s x : Operand)
    (ho : o.op = .call { callee := .builtin .append, args := #[s, x], argTypes := #[62, 62] })
    {rb base : Nat} {v : Value} {xs : List (Rec)} (hs : a.eval s = v) (hown : OwnRow eRec w rb base v xs)
    {B : Nat} {A : Option Addr} {c : Nat} {cs : List Value} {y : Rec} (hx : a.eval x = .slice A 1 c) (hr : Sl w B 4 A 1 c cs) (hc : eRec.R (ByT w base) cs y)
    (hlim : xs.length + 1 ≤ lim) (hbase : rb ≤ w.heap.size) (hb : base ≤ rb)
    (h : ∀ v' w', OwnRow eRec w' rb base v' (xs ++ [y]) → w.grownBy w' v.ownBlock → Below rb w w' → K (a.put o.dst v') w') : o.wp Try.prog a w K Q := by
  obtain ⟨css, hc0, ho0⟩ := hown
  exact wp_app_rec s x ho rb v xs.length css.flatten hs ho0 B A 1 c cs hx hr (eRec.one ByT.one hc) hlim hbase fun v' w' h2 h3 h4 _ => h v' w' (OwnRow.app hc0 ho0 (Cs.single hc) (by rw [show [cs].flatten = cs by simp]; exact h2) h3 (by decide) hb) h3 h4
theorem wpl_rec {ops : Array Oper} {rest : List Oper} {w : World} (hgd : o.guard = none) (s x : Operand)
    (ho : o.op = .call { callee := .builtin .append, args := #[s, x], argTypes := #[62, 62] })
    {rb base : Nat} {v : Value} {xs : List (Rec)} (hs : a.eval s = v) (hown : OwnRow eRec w rb base v xs)
    {B : Nat} {A : Option Addr} {c : Nat} {cs : List Value} {y : Rec} (hx : a.eval x = .slice A 1 c) (hr : Sl w B 4 A 1 c cs) (hc : eRec.R (ByT w base) cs y)
    (hlim : xs.length + 1 ≤ lim) (hbase : rb ≤ w.heap.size) (hb : base ≤ rb)
    (h : ∀ v' w', OwnRow eRec w' rb base v' (xs ++ [y]) → w.grownBy w' v.ownBlock → Below rb w w' → wpList Try.prog ops Q rest (a.put o.dst v') w') : wpList Try.prog ops Q (o :: rest) a w :=
  wpList_plain hgd fun _ hK => wpo_rec s x ho hs hown hx hr hc hlim hbase hb fun v' w' h2 h3 h4 => hK _ _ (h v' w' h2 h3 h4)
end
section
variable {o : Oper} {a : Act} {K : Act → World → Prop} {Q : Exit → Act → World → Prop}
theorem wpo_ent {w : World} (s x : Operand)
    (ho : o.op = .call { callee := .builtin .append, args := #[s, x], argTypes := #[83, 83] })
    {rb base : Nat} {v : Value} {xs : List (Ent)} (hs : a.eval s = v) (hown : OwnRow eEnt w rb base v xs)
    {B : Nat} {A : Option Addr} {c : Nat} {cs : List Value} {y : Ent} (hx : a.eval x = .slice A 1 c) (hr : Sl w B 5 A 1 c cs) (hc : eEnt.R (ByT w base) cs y)
    (hlim : xs.length + 1 ≤ lim) (hbase : rb ≤ w.heap.size) (hb : base ≤ rb)
    (h : ∀ v' w', OwnRow eEnt w' rb base v' (xs ++ [y]) → w.grownBy w' v.ownBlock → Below rb w w' → K (a.put o.dst v') w') : o.wp Try.prog a w K Q := by
  obtain ⟨css, hc0, ho0⟩ := hown
  exact wp_app_ent s x ho rb v xs.length css.flatten hs ho0 B A 1 c cs hx hr (eEnt.one ByT.one hc) hlim hbase fun v' w' h2 h3 h4 _ => h v' w' (OwnRow.app hc0 ho0 (Cs.single hc) (by rw [show [cs].flatten = cs by simp]; exact h2) h3 (by decide) hb) h3 h4
theorem wpl_ent {ops : Array Oper} {rest : List Oper} {w : World} (hgd : o.guard = none) (s x : Operand)
    (ho : o.op = .call { callee := .builtin .append, args := #[s, x], argTypes := #[83, 83] })
    {rb base : Nat} {v : Value} {xs : List (Ent)} (hs : a.eval s = v) (hown : OwnRow eEnt w rb base v xs)
    {B : Nat} {A : Option Addr} {c : Nat} {cs : List Value} {y : Ent} (hx : a.eval x = .slice A 1 c) (hr : Sl w B 5 A 1 c cs) (hc : eEnt.R (ByT w base) cs y)
    (hlim : xs.length + 1 ≤ lim) (hbase : rb ≤ w.heap.size) (hb : base ≤ rb)
    (h : ∀ v' w', OwnRow eEnt w' rb base v' (xs ++ [y]) → w.grownBy w' v.ownBlock → Below rb w w' → wpList Try.prog ops Q rest (a.put o.dst v') w') : wpList Try.prog ops Q (o :: rest) a w :=
  wpList_plain hgd fun _ hK => wpo_ent s x ho hs hown hx hr hc hlim hbase hb fun v' w' h2 h3 h4 => hK _ _ (h v' w' h2 h3 h4)
end
section
variable {o : Oper} {a : Act} {K : Act → World → Prop} {Q : Exit → Act → World → Prop}
theorem wpo_int {w : World} (s x : Operand)
    (ho : o.op = .call { callee := .builtin .append, args := #[s, x], argTypes := #[103, 103] })
    {rb base : Nat} {v : Value} {xs : List (Int)} (hs : a.eval s = v) (hown : OwnRow eInt w rb base v xs)
    {B : Nat} {A : Option Addr} {c : Nat} {cs : List Value} {y : Int} (hx : a.eval x = .slice A 1 c) (hr : Sl w B 1 A 1 c cs) (hc : eInt.R (ByT w base) cs y)
    (hlim : xs.length + 1 ≤ lim) (hbase : rb ≤ w.heap.size) (hb : base ≤ rb)
    (h : ∀ v' w', OwnRow eInt w' rb base v' (xs ++ [y]) → w.grownBy w' v.ownBlock → Below rb w w' → K (a.put o.dst v') w') : o.wp Try.prog a w K Q := by
  obtain ⟨css, hc0, ho0⟩ := hown
  exact wp_app_int s x ho rb v xs.length css.flatten hs ho0 B A 1 c cs hx hr (eInt.one ByT.one hc) hlim hbase fun v' w' h2 h3 h4 _ => h v' w' (OwnRow.app hc0 ho0 (Cs.single hc) (by rw [show [cs].flatten = cs by simp]; exact h2) h3 (by decide) hb) h3 h4
theorem wpl_int {ops : Array Oper} {rest : List Oper} {w : World} (hgd : o.guard = none) (s x : Operand)
    (ho : o.op = .call { callee := .builtin .append, args := #[s, x], argTypes := #[103, 103] })
    {rb base : Nat} {v : Value} {xs : List (Int)} (hs : a.eval s = v) (hown : OwnRow eInt w rb base v xs)
    {B : Nat} {A : Option Addr} {c : Nat} {cs : List Value} {y : Int} (hx : a.eval x = .slice A 1 c) (hr : Sl w B 1 A 1 c cs) (hc : eInt.R (ByT w base) cs y)
    (hlim : xs.length + 1 ≤ lim) (hbase : rb ≤ w.heap.size) (hb : base ≤ rb)
    (h : ∀ v' w', OwnRow eInt w' rb base v' (xs ++ [y]) → w.grownBy w' v.ownBlock → Below rb w w' → wpList Try.prog ops Q rest (a.put o.dst v') w') : wpList Try.prog ops Q (o :: rest) a w :=
  wpList_plain hgd fun _ hK => wpo_int s x ho hs hown hx hr hc hlim hbase hb fun v' w' h2 h3 h4 => hK _ _ (h v' w' h2 h3 h4)
end
section
variable {o : Oper} {a : Act} {K : Act → World → Prop} {Q : Exit → Act → World → Prop}
theorem wpo_eno {w : World} (s x : Operand)
    (ho : o.op = .call { callee := .builtin .append, args := #[s, x], argTypes := #[102, 102] })
    {rb base : Nat} {v : Value} {xs : List (Int)} (hs : a.eval s = v) (hown : OwnRow eErr w rb base v xs)
    {B : Nat} {A : Option Addr} {c : Nat} {cs : List Value} {y : Int} (hx : a.eval x = .slice A 1 c) (hr : Sl w B 1 A 1 c cs) (hc : eErr.R (ByT w base) cs y)
    (hlim : xs.length + 1 ≤ lim) (hbase : rb ≤ w.heap.size) (hb : base ≤ rb)
    (h : ∀ v' w', OwnRow eErr w' rb base v' (xs ++ [y]) → w.grownBy w' v.ownBlock → Below rb w w' → K (a.put o.dst v') w') : o.wp Try.prog a w K Q := by
  obtain ⟨css, hc0, ho0⟩ := hown
  exact wp_app_eno s x ho rb v xs.length css.flatten hs ho0 B A 1 c cs hx hr (eErr.one ByT.one hc) hlim hbase fun v' w' h2 h3 h4 _ => h v' w' (OwnRow.app hc0 ho0 (Cs.single hc) (by rw [show [cs].flatten = cs by simp]; exact h2) h3 (by decide) hb) h3 h4
theorem wpl_eno {ops : Array Oper} {rest : List Oper} {w : World} (hgd : o.guard = none) (s x : Operand)
    (ho : o.op = .call { callee := .builtin .append, args := #[s, x], argTypes := #[102, 102] })
    {rb base : Nat} {v : Value} {xs : List (Int)} (hs : a.eval s = v) (hown : OwnRow eErr w rb base v xs)
    {B : Nat} {A : Option Addr} {c : Nat} {cs : List Value} {y : Int} (hx : a.eval x = .slice A 1 c) (hr : Sl w B 1 A 1 c cs) (hc : eErr.R (ByT w base) cs y)
    (hlim : xs.length + 1 ≤ lim) (hbase : rb ≤ w.heap.size) (hb : base ≤ rb)
    (h : ∀ v' w', OwnRow eErr w' rb base v' (xs ++ [y]) → w.grownBy w' v.ownBlock → Below rb w w' → wpList Try.prog ops Q rest (a.put o.dst v') w') : wpList Try.prog ops Q (o :: rest) a w :=
  wpList_plain hgd fun _ hK => wpo_eno s x ho hs hown hx hr hc hlim hbase hb fun v' w' h2 h3 h4 => hK _ _ (h v' w' h2 h3 h4)
end

/-! ### the whole of a row behind a nil or an empty one: append(x, l...) -/
section
variable {o : Oper} {a : Act} {K : Act → World → Prop} {Q : Exit → Act → World → Prop}
theorem wpa_blk {w : World} (s x : Operand)
    (ho : o.op = .call { callee := .builtin .append, args := #[s, x], argTypes := #[43, 43] })
    {T : List TypeId} {rb base : Nat} {v u : Value} {xs ys : List (List UInt8)} (hs : a.eval s = v) (hown : OwnRow eBlk w rb base v xs)
    (hx : a.eval x = u) (hr : Row eBlk T w base u ys)
    (hlim : xs.length + ys.length ≤ lim) (hbase : rb ≤ w.heap.size) (hb : base ≤ rb)
    (h : ∀ v' w', OwnRow eBlk w' rb base v' (xs ++ ys) → w.grownBy w' v.ownBlock → Below rb w w' → K (a.put o.dst v') w') : o.wp Try.prog a w K Q := by
  obtain ⟨css, hc0, ho0⟩ := hown
  obtain ⟨A, c, css', rfl, hc', hs'⟩ := hr
  exact wp_app_blk s x ho rb v xs.length css.flatten hs ho0 w.heap.size A ys.length c css'.flatten hx hs'.1 (hc'.one ByT.one) hlim hbase fun v' w' h2 h3 h4 _ => h v' w' (OwnRow.app hc0 ho0 hc' h2 h3 (by decide) hb) h3 h4
theorem wpal_blk {ops : Array Oper} {rest : List Oper} {w : World} (hgd : o.guard = none) (s x : Operand)
    (ho : o.op = .call { callee := .builtin .append, args := #[s, x], argTypes := #[43, 43] })
    {T : List TypeId} {rb base : Nat} {v u : Value} {xs ys : List (List UInt8)} (hs : a.eval s = v) (hown : OwnRow eBlk w rb base v xs)
    (hx : a.eval x = u) (hr : Row eBlk T w base u ys)
    (hlim : xs.length + ys.length ≤ lim) (hbase : rb ≤ w.heap.size) (hb : base ≤ rb)
    (h : ∀ v' w', OwnRow eBlk w' rb base v' (xs ++ ys) → w.grownBy w' v.ownBlock → Below rb w w' → wpList Try.prog ops Q rest (a.put o.dst v') w') : wpList Try.prog ops Q (o :: rest) a w :=
  wpList_plain hgd fun _ hK => wpa_blk s x ho hs hown hx hr hlim hbase hb fun v' w' h2 h3 h4 => hK _ _ (h v' w' h2 h3 h4)
end
section
variable {o : Oper} {a : Act} {K : Act → World → Prop} {Q : Exit → Act → World → Prop}
theorem wpa_wr {w : World} (s x : Operand)
    (ho : o.op = .call { callee := .builtin .append, args := #[s, x], argTypes := #[44, 44] })
    {T : List TypeId} {rb base : Nat} {v u : Value} {xs ys : List (Int × List UInt8)} (hs : a.eval s = v) (hown : OwnRow eWr w rb base v xs)
    (hx : a.eval x = u) (hr : Row eWr T w base u ys)
    (hlim : xs.length + ys.length ≤ lim) (hbase : rb ≤ w.heap.size) (hb : base ≤ rb)
    (h : ∀ v' w', OwnRow eWr w' rb base v' (xs ++ ys) → w.grownBy w' v.ownBlock → Below rb w w' → K (a.put o.dst v') w') : o.wp Try.prog a w K Q := by
  obtain ⟨css, hc0, ho0⟩ := hown
  obtain ⟨A, c, css', rfl, hc', hs'⟩ := hr
  exact wp_app_wr s x ho rb v xs.length css.flatten hs ho0 w.heap.size A ys.length c css'.flatten hx hs'.1 (hc'.one ByT.one) hlim hbase fun v' w' h2 h3 h4 _ => h v' w' (OwnRow.app hc0 ho0 hc' h2 h3 (by decide) hb) h3 h4
theorem wpal_wr {ops : Array Oper} {rest : List Oper} {w : World} (hgd : o.guard = none) (s x : Operand)
    (ho : o.op = .call { callee := .builtin .append, args := #[s, x], argTypes := #[44, 44] })
    {T : List TypeId} {rb base : Nat} {v u : Value} {xs ys : List (Int × List UInt8)} (hs : a.eval s = v) (hown : OwnRow eWr w rb base v xs)
    (hx : a.eval x = u) (hr : Row eWr T w base u ys)
    (hlim : xs.length + ys.length ≤ lim) (hbase : rb ≤ w.heap.size) (hb : base ≤ rb)
    (h : ∀ v' w', OwnRow eWr w' rb base v' (xs ++ ys) → w.grownBy w' v.ownBlock → Below rb w w' → wpList Try.prog ops Q rest (a.put o.dst v') w') : wpList Try.prog ops Q (o :: rest) a w :=
  wpList_plain hgd fun _ hK => wpa_wr s x ho hs hown hx hr hlim hbase hb fun v' w' h2 h3 h4 => hK _ _ (h v' w' h2 h3 h4)
end
section
variable {o : Oper} {a : Act} {K : Act → World → Prop} {Q : Exit → Act → World → Prop}
theorem wpa_rec {w : World} (s x : Operand)
    (ho : o.op = .call { callee := .builtin .append, args := #[s, x], argTypes := #[62, 62] })
    {T : List TypeId} {rb base : Nat} {v u : Value} {xs ys : List (Rec)} (hs : a.eval s = v) (hown : OwnRow eRec w rb base v xs)
    (hx : a.eval x = u) (hr : Row eRec T w base u ys)
    (hlim : xs.length + ys.length ≤ lim) (hbase : rb ≤ w.heap.size) (hb : base ≤ rb)
    (h : ∀ v' w', OwnRow eRec w' rb base v' (xs ++ ys) → w.grownBy w' v.ownBlock → Below rb w w' → K (a.put o.dst v') w') : o.wp Try.prog a w K Q := by
  obtain ⟨css, hc0, ho0⟩ := hown
  obtain ⟨A, c, css', rfl, hc', hs'⟩ := hr
  exact wp_app_rec s x ho rb v xs.length css.flatten hs ho0 w.heap.size A ys.length c css'.flatten hx hs'.1 (hc'.one ByT.one) hlim hbase fun v' w' h2 h3 h4 _ => h v' w' (OwnRow.app hc0 ho0 hc' h2 h3 (by decide) hb) h3 h4
theorem wpal_rec {ops : Array Oper} {rest : List Oper} {w : World} (hgd : o.guard = none) (s x : Operand)
    (ho : o.op = .call { callee := .builtin .append, args := #[s, x], argTypes := #[62, 62] })
    {T : List TypeId} {rb base : Nat} {v u : Value} {xs ys : List (Rec)} (hs : a.eval s = v) (hown : OwnRow eRec w rb base v xs)
    (hx : a.eval x = u) (hr : Row eRec T w base u ys)
    (hlim : xs.length + ys.length ≤ lim) (hbase : rb ≤ w.heap.size) (hb : base ≤ rb)
    (h : ∀ v' w', OwnRow eRec w' rb base v' (xs ++ ys) → w.grownBy w' v.ownBlock → Below rb w w' → wpList Try.prog ops Q rest (a.put o.dst v') w') : wpList Try.prog ops Q (o :: rest) a w :=
  wpList_plain hgd fun _ hK => wpa_rec s x ho hs hown hx hr hlim hbase hb fun v' w' h2 h3 h4 => hK _ _ (h v' w' h2 h3 h4)
end
section
variable {o : Oper} {a : Act} {K : Act → World → Prop} {Q : Exit → Act → World → Prop}
theorem wpa_ent {w : World} (s x : Operand)
    (ho : o.op = .call { callee := .builtin .append, args := #[s, x], argTypes := #[83, 83] })
    {T : List TypeId} {rb base : Nat} {v u : Value} {xs ys : List (Ent)} (hs : a.eval s = v) (hown : OwnRow eEnt w rb base v xs)
    (hx : a.eval x = u) (hr : Row eEnt T w base u ys)
    (hlim : xs.length + ys.length ≤ lim) (hbase : rb ≤ w.heap.size) (hb : base ≤ rb)
    (h : ∀ v' w', OwnRow eEnt w' rb base v' (xs ++ ys) → w.grownBy w' v.ownBlock → Below rb w w' → K (a.put o.dst v') w') : o.wp Try.prog a w K Q := by
  obtain ⟨css, hc0, ho0⟩ := hown
  obtain ⟨A, c, css', rfl, hc', hs'⟩ := hr
  exact wp_app_ent s x ho rb v xs.length css.flatten hs ho0 w.heap.size A ys.length c css'.flatten hx hs'.1 (hc'.one ByT.one) hlim hbase fun v' w' h2 h3 h4 _ => h v' w' (OwnRow.app hc0 ho0 hc' h2 h3 (by decide) hb) h3 h4
theorem wpal_ent {ops : Array Oper} {rest : List Oper} {w : World} (hgd : o.guard = none) (s x : Operand)
    (ho : o.op = .call { callee := .builtin .append, args := #[s, x], argTypes := #[83, 83] })
    {T : List TypeId} {rb base : Nat} {v u : Value} {xs ys : List (Ent)} (hs : a.eval s = v) (hown : OwnRow eEnt w rb base v xs)
    (hx : a.eval x = u) (hr : Row eEnt T w base u ys)
    (hlim : xs.length + ys.length ≤ lim) (hbase : rb ≤ w.heap.size) (hb : base ≤ rb)
    (h : ∀ v' w', OwnRow eEnt w' rb base v' (xs ++ ys) → w.grownBy w' v.ownBlock → Below rb w w' → wpList Try.prog ops Q rest (a.put o.dst v') w') : wpList Try.prog ops Q (o :: rest) a w :=
  wpList_plain hgd fun _ hK => wpa_ent s x ho hs hown hx hr hlim hbase hb fun v' w' h2 h3 h4 => hK _ _ (h v' w' h2 h3 h4)
end
section
variable {o : Oper} {a : Act} {K : Act → World → Prop} {Q : Exit → Act → World → Prop}
theorem wpa_int {w : World} (s x : Operand)
    (ho : o.op = .call { callee := .builtin .append, args := #[s, x], argTypes := #[103, 103] })
    {T : List TypeId} {rb base : Nat} {v u : Value} {xs ys : List (Int)} (hs : a.eval s = v) (hown : OwnRow eInt w rb base v xs)
    (hx : a.eval x = u) (hr : Row eInt T w base u ys)
    (hlim : xs.length + ys.length ≤ lim) (hbase : rb ≤ w.heap.size) (hb : base ≤ rb)
    (h : ∀ v' w', OwnRow eInt w' rb base v' (xs ++ ys) → w.grownBy w' v.ownBlock → Below rb w w' → K (a.put o.dst v') w') : o.wp Try.prog a w K Q := by
  obtain ⟨css, hc0, ho0⟩ := hown
  obtain ⟨A, c, css', rfl, hc', hs'⟩ := hr
  exact wp_app_int s x ho rb v xs.length css.flatten hs ho0 w.heap.size A ys.length c css'.flatten hx hs'.1 (hc'.one ByT.one) hlim hbase fun v' w' h2 h3 h4 _ => h v' w' (OwnRow.app hc0 ho0 hc' h2 h3 (by decide) hb) h3 h4
theorem wpal_int {ops : Array Oper} {rest : List Oper} {w : World} (hgd : o.guard = none) (s x : Operand)
    (ho : o.op = .call { callee := .builtin .append, args := #[s, x], argTypes := #[103, 103] })
    {T : List TypeId} {rb base : Nat} {v u : Value} {xs ys : List (Int)} (hs : a.eval s = v) (hown : OwnRow eInt w rb base v xs)
    (hx : a.eval x = u) (hr : Row eInt T w base u ys)
    (hlim : xs.length + ys.length ≤ lim) (hbase : rb ≤ w.heap.size) (hb : base ≤ rb)
    (h : ∀ v' w', OwnRow eInt w' rb base v' (xs ++ ys) → w.grownBy w' v.ownBlock → Below rb w w' → wpList Try.prog ops Q rest (a.put o.dst v') w') : wpList Try.prog ops Q (o :: rest) a w :=
  wpList_plain hgd fun _ hK => wpa_int s x ho hs hown hx hr hlim hbase hb fun v' w' h2 h3 h4 => hK _ _ (h v' w' h2 h3 h4)
end

theorem OwnRow.empty {α : Type} (E : El α) (w : World) {rb base : Nat} (h : rb ≤ w.heap.size) : OwnRow E (w.alloc (.cells #[] E.ty)) rb base (.slice (some ⟨w.heap.size, 0, none⟩) 0 0) [] :=
  ⟨[], Cs.nil, own_lit w [] _ h (by simp) (by unfold maxLen; omega)⟩

end Go.Proofs.Ytnganglmpcbcbaa
