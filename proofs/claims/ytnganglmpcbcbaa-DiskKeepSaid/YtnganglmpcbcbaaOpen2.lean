/- An argument's reading, opened: records; and the sizes that hold within. -/
import Derived.Test.YtnganglmpcbcbaaOpen
namespace Go.Proofs.Ytnganglmpcbcbaa
open Go Go.RowKit Go.ChangeShapes Go.WideShapes Go.ChangeAt

theorem len2 {α : Type} : ∀ (l : List α), l.length = 2 → ∃ a b, l = [a, b]
  | [a, b], _ => ⟨a, b, rfl⟩
theorem len3 {α : Type} : ∀ (l : List α), l.length = 3 → ∃ a b c, l = [a, b, c]
  | [a, b, c], _ => ⟨a, b, c, rfl⟩
theorem len4 {α : Type} : ∀ (l : List α), l.length = 4 → ∃ a b c d, l = [a, b, c, d]
  | [a, b, c, d], _ => ⟨a, b, c, d, rfl⟩
/-- What an argument's data weighs lies within the reach, each part of it. -/
def Fits {H : Type} (P : Program) (t : TypeId) (d : DataW H) : Prop := ∀ n ∈ d.weights P t, n ≤ reachBytes
section
variable {H : Type} {P : Program} {t : TypeId}
theorem fits_of {ts : List TypeId} {ds : List (DataW H)} (h : (DataW.weightsEach P ts ds).all (· ≤ reachBytes) = true) (j : Nat) {d : DataW H} (ht : ts[j]? = some t) (hd : ds[j]? = some d) : Fits P t d :=
  fun n hn => by simpa using List.all_eq_true.1 h _ (DataW.weights_mem_each ht hd n hn)
theorem fits_slice {e : TypeId} {es sp : List (DataW H)} (h : Fits P t (.slice es sp)) (hu : P.underlying t = some (.slice e)) : (es.length + sp.length) * P.bytesOf e ≤ reachBytes :=
  h _ (by simp [DataW.weights, hu])
theorem weights_all {e : TypeId} : ∀ {l : List (DataW H)} {i : Nat} {d : DataW H}, l[i]? = some d → ∀ n ∈ d.weights P e, n ∈ DataW.weightsAll P e l
  | x :: r, 0, d, h, n, hn => by simp at h; subst h; simp only [DataW.weightsAll, List.mem_append]; exact .inl hn
  | x :: r, i + 1, d, h, n, hn => by simp only [DataW.weightsAll, List.mem_append]; exact .inr (weights_all (by simpa using h) n hn)
theorem fits_elem {e : TypeId} {es sp : List (DataW H)} (h : Fits P t (.slice es sp)) (hu : P.underlying t = some (.slice e)) {i : Nat} {d : DataW H} (hd : es[i]? = some d) : Fits P e d :=
  fun n hn => h _ (by simp only [DataW.weights, hu, List.mem_cons, List.mem_append]; exact .inr (.inl (weights_all hd n hn)))
theorem fits_field {fs : Array Field} {parts : List (DataW H)} (h : Fits P t (.agg parts)) (hu : P.underlying t = some (.struct fs)) (i : Nat) {f : Field} {d : DataW H} (hf : fs[i]? = some f) (hd : parts[i]? = some d) : Fits P f.type d :=
  fun n hn => h _ (by simp only [DataW.weights, hu]; exact DataW.weights_mem_each (j := i) (by simp [hf]) hd n hn)
end

/-- A record as an argument holds it. -/
structure RecIn (w : World) (B : Nat) (A : Option Addr) (n c : Nat) (r : Rec) : Prop where
  at_ : By w B A n c r.data
  small : n + 4096 ≤ blim
  kind : -9223372036854775808 ≤ r.kind ∧ r.kind ≤ 9223372036854775807
  key : -9223372036854775808 ≤ r.key ∧ r.key ≤ 9223372036854775807
  ver : -9223372036854775808 ≤ r.ver ∧ r.ver ≤ 9223372036854775807

section
variable {H : Type} {enc : TypeId × Value → H} {w : World} {base : Nat} {spare : Nat → Bool} {held : Bool}
theorem in_by {fuel : Nat} {cs : List Value} {x : DataW H × List MemPlace} (h : DataW.trod enc Try.prog w base spare held fuel 22 cs = some x) (hf : Fits Try.prog 22 x.1) :
    ∃ A n c l, cs = [.slice A n c] ∧ By w w.heap.size A n c l ∧ n + 4096 ≤ blim := by
  obtain ⟨A, n, c, l, hcs, hb, hz⟩ := trod_by h
  refine ⟨A, n, c, l, hcs, hb, ?_⟩
  rw [blim_def]
  rcases hz with rfl | ⟨es, sp, hd, rfl⟩
  · omega
  · rw [hd] at hf
    have hh := fits_slice hf Try.underlying22
    rw [bytes_u8] at hh
    have hr : reachBytes = 140737488351232 := rfl
    omega
theorem in_int {fuel : Nat} {cs : List Value} {x : DataW H × List MemPlace} (h : DataW.trod enc Try.prog w base spare held fuel 3 cs = some x) :
    ∃ n, cs = [.int .i64 n] ∧ -9223372036854775808 ≤ n ∧ n ≤ 9223372036854775807 := by
  obtain ⟨n, hcs, _, hw⟩ := DataW.trod_int Try.underlying3 h
  exact ⟨n, hcs, bd_i64 hw⟩
theorem cells_int : Try.prog.cellsOf 3 = 1 := by kernel_rfl
theorem cells_bytes : Try.prog.cellsOf 22 = 1 := by kernel_rfl
theorem cells_rec : Try.prog.cellsOf 32 = 4 := by kernel_rfl
theorem in_rec {fuel : Nat} {cs : List Value} {x : DataW H × List MemPlace} (h : DataW.trod enc Try.prog w base spare held fuel 32 cs = some x) (hf : Fits Try.prog 32 x.1) :
    ∃ A n c r, cs = [.int .i64 r.kind, .int .i64 r.key, .int .i64 r.ver, .slice A n c] ∧ RecIn w w.heap.size A n c r := by
  obtain ⟨xs, m, _, rfl, hl, hlen, ht⟩ := DataW.trod_struct Try.underlying32 h
  have h0 := ht 0 _ rfl
  have h1 := ht 1 _ rfl
  have h2 := ht 2 _ rfl
  have h3 := ht 3 _ rfl
  rw [cells_rec] at hl
  obtain ⟨y0, y1, y2, y3, rfl⟩ := len4 xs hlen
  obtain ⟨a, b, c, d, rfl⟩ := len4 cs hl
  simp only [List.getElem_toArray, List.getElem_cons_zero, List.getElem_cons_succ, cells_int, cells_bytes, List.drop_zero, List.drop_succ_cons, List.take_succ_cons, List.take_zero, List.getElem?_cons_zero, List.getElem?_cons_succ] at h0 h1 h2 h3
  obtain ⟨k, ek, hk⟩ := in_int h0
  obtain ⟨e, ee, he⟩ := in_int h1
  obtain ⟨v, ev, hv⟩ := in_int h2
  obtain ⟨A, n, cp, l, es, hb, hz⟩ := in_by h3 (fits_field hf Try.underlying32 3 rfl rfl)
  simp only [List.cons.injEq, and_true] at ek ee ev es
  subst ek ee ev es
  exact ⟨A, n, cp, ⟨k, e, v, l⟩, rfl, hb, hz, hk, he, hv⟩
end
end Go.Proofs.Ytnganglmpcbcbaa
