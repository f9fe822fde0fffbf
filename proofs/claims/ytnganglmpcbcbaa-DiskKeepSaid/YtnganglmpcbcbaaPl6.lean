/- Plain: versions of keys, at once (chapter 6). -/
import Derived.Test.YtnganglmpcbcbaaPl3
namespace Go.Proofs.Ytnganglmpcbcbaa

def mWrong (d : Ded) : Int :=
  if d.kind < 1 ∨ 3 < d.kind then 1
  else if (d.key < 1 ∨ 255 < d.key) ∨ (d.kind = 3 ∧ (d.n < 1 ∨ 60000 < d.n)) ∨ (d.kind ≠ 3 ∧ d.n ≠ 0) then 3
  else if 8 < d.data.length ∨ d.kind ≠ 1 ∧ 0 < d.data.length then 4
  else 0
def mMax (l : List Rec) : Int := l.foldl (fun n r => max n r.ver) 0
def mNext (l : List Rec) : Int := mMax l + 1
def mMade (d : Ded) (v : Int) : Rec := ⟨if d.kind = 2 then 3 else 2, d.key, v, d.data⟩
def mHit (k v : Int) (r : Rec) : Bool := decide (r.key = k) && decide (r.ver = v)
def mIdx (l : List Rec) (k v : Int) : Nat := l.findIdx (mHit k v)
def mDo (l : List Rec) (d : Ded) : List Rec × Int × Int :=
  if d.kind = 3 then
    if mIdx l d.key d.n < l.length then (l.eraseIdx (mIdx l d.key d.n), d.n, 0) else (l, 0, 6)
  else if 6 ≤ l.length then (l, 0, 9)
  else if 60000 < mNext l then (l, 0, 4)
  else (l ++ [mMade d (mNext l)], mNext l, 0)
def mLast (l : List Rec) (k : Int) : Rec := l.foldl (fun x r => if r.key = k ∧ x.ver < r.ver then r else x) rZero
def mGet (l : List Rec) (k : Int) : List UInt8 × Int :=
  if (mLast l k).kind = 0 then ([], 6) else if (mLast l k).kind = 3 then ([], 10) else ((mLast l k).data, 0)
def mSame (a b : List Rec) : Bool := a.all (fun r => b.any fun x => rSame x r) && decide (a.length = b.length)
def rOne (r : Rec) : Bool := decide (rWrong r = 0) && decide (r.kind ≠ 1)
def mRight (l : List Rec) : Bool := l.all rOne && decide (l.length ≤ 40)

theorem rOne_spec {r : Rec} (h : rOne r = true) : (r.kind = 2 ∨ r.kind = 3) ∧ 1 ≤ r.key ∧ r.key ≤ 255 ∧ 1 ≤ r.ver ∧ r.ver ≤ 60000 ∧ r.data.length ≤ 8 ∧ (r.kind = 3 → r.data = []) := by
  unfold rOne rWrong at h
  simp only [Bool.and_eq_true, decide_eq_true_eq] at h
  obtain ⟨h, h1⟩ := h
  split at h
  · cases h
  · split at h
    · cases h
    · split at h
      · cases h
      · split at h
        · cases h
        · refine ⟨by omega, by omega, by omega, by omega, by omega, by omega, fun h3 => List.eq_nil_of_length_eq_zero (by omega)⟩
theorem rOne_mk {r : Rec} (hk : r.kind = 2 ∨ r.kind = 3) (h1 : 1 ≤ r.key) (h2 : r.key ≤ 255) (h3 : 1 ≤ r.ver) (h4 : r.ver ≤ 60000) (h5 : r.data.length ≤ 8) (h6 : r.kind = 3 → r.data = []) : rOne r = true := by
  unfold rOne rWrong
  simp only [Bool.and_eq_true, decide_eq_true_eq]
  refine ⟨?_, by omega⟩
  rw [if_neg (by omega), if_neg (by omega), if_neg (by omega), if_neg ?_]
  rintro (h | ⟨h, h'⟩)
  · omega
  · have := h6 (by omega)
    rw [this] at h'
    simp at h'
theorem mRight_mem {l : List Rec} (h : mRight l = true) : ∀ r ∈ l, rOne r = true := by
  unfold mRight at h
  simp only [Bool.and_eq_true, List.all_eq_true] at h
  exact h.1
theorem mMax_bd (l : List Rec) (h : ∀ r ∈ l, rOne r = true) : 0 ≤ mMax l ∧ mMax l ≤ 60000 := by
  unfold mMax
  have : ∀ (l : List Rec) (n : Int), (∀ r ∈ l, rOne r = true) → 0 ≤ n ∧ n ≤ 60000 → 0 ≤ l.foldl (fun n r => max n r.ver) n ∧ l.foldl (fun n r => max n r.ver) n ≤ 60000 := by
    intro l
    induction l with
    | nil => intro n _ h; exact h
    | cons r l ih =>
      intro n hr h
      have := rOne_spec (hr r (by simp))
      have h2 : 0 ≤ max n r.ver ∧ max n r.ver ≤ 60000 := by omega
      exact ih _ (fun x hx => hr x (by simp [hx])) h2
  exact this l 0 h (by omega)
theorem foldl_max_ge (l : List Rec) : ∀ n : Int, n ≤ l.foldl (fun n r => max n r.ver) n ∧ ∀ r ∈ l, r.ver ≤ l.foldl (fun n r => max n r.ver) n := by
  induction l with
  | nil => intro n; exact ⟨Int.le_refl _, fun r hr => by cases hr⟩
  | cons x l ih =>
    intro n
    have h := ih (max n x.ver)
    refine ⟨by have := h.1; simp only [List.foldl_cons]; omega, fun r hr => ?_⟩
    simp only [List.foldl_cons]
    rcases List.mem_cons.1 hr with rfl | hr
    · have := h.1; omega
    · exact h.2 r hr
theorem mMax_ge (l : List Rec) : ∀ r ∈ l, r.ver ≤ mMax l := (foldl_max_ge l 0).2
theorem mMax_snoc (l : List Rec) (r : Rec) : mMax (l ++ [r]) = max (mMax l) r.ver := by unfold mMax; rw [List.foldl_append]; rfl
theorem mMax_take (l : List Rec) (k : Nat) (hk : k < l.length) : mMax (l.take (k + 1)) = max (mMax (l.take k)) (l.getD k rZero).ver := by rw [take_succ_getD' rZero l k hk, mMax_snoc]
theorem mLast_snoc (l : List Rec) (r : Rec) (k : Int) : mLast (l ++ [r]) k = if r.key = k ∧ (mLast l k).ver < r.ver then r else mLast l k := by unfold mLast; rw [List.foldl_append]; rfl
theorem mLast_take (l : List Rec) (k : Nat) (hk : k < l.length) (key : Int) :
    mLast (l.take (k + 1)) key = if (l.getD k rZero).key = key ∧ (mLast (l.take k) key).ver < (l.getD k rZero).ver then l.getD k rZero else mLast (l.take k) key := by rw [take_succ_getD' rZero l k hk, mLast_snoc]
/-- The key's last record: none, or a right one. -/
theorem mLast_right (l : List Rec) (h : ∀ r ∈ l, rOne r = true) (k : Int) : mLast l k = rZero ∨ (rOne (mLast l k) = true ∧ mLast l k ∈ l) := by
  have : ∀ (l m : List Rec) (x : Rec), (∀ r ∈ m, r ∈ l) → (∀ r ∈ l, rOne r = true) → (x = rZero ∨ (rOne x = true ∧ x ∈ l)) →
      let y := m.foldl (fun x r => if r.key = k ∧ x.ver < r.ver then r else x) x; y = rZero ∨ (rOne y = true ∧ y ∈ l) := by
    intro l m
    induction m with
    | nil => intro x _ _ h; exact h
    | cons r m ih =>
      intro x hm hl hx
      simp only [List.foldl_cons]
      refine ih _ (fun y hy => hm y (by simp [hy])) hl ?_
      split
      · exact .inr ⟨hl r (hm r (by simp)), hm r (by simp)⟩
      · exact hx
  exact this l l rZero (fun _ h => h) h (.inl rfl)
theorem mLast_kind (l : List Rec) (h : ∀ r ∈ l, rOne r = true) (k : Int) : ((mLast l k).kind = 0 ∧ mLast l k = rZero) ∨ (mLast l k).kind = 2 ∨ (mLast l k).kind = 3 := by
  rcases mLast_right l h k with e | ⟨e, _⟩
  · exact .inl ⟨by rw [e]; rfl, e⟩
  · exact .inr (rOne_spec e).1
theorem mSame_refl (l : List Rec) : mSame l l = true := by
  unfold mSame
  simp only [Bool.and_eq_true, List.all_eq_true, List.any_eq_true, decide_true, and_true]
  exact fun r hr => ⟨r, hr, (rSame_iff r r).2 rfl⟩

/-! ### the laws -/
theorem mWrong_zero {d : Ded} (h : mWrong d = 0) : (d.kind = 1 ∨ d.kind = 2 ∨ d.kind = 3) ∧ 1 ≤ d.key ∧ d.key ≤ 255 ∧ (d.kind = 3 → 1 ≤ d.n ∧ d.n ≤ 60000) ∧ (d.kind ≠ 3 → d.n = 0) ∧ d.data.length ≤ 8 ∧ (d.kind ≠ 1 → d.data = []) := by
  unfold mWrong at h
  split at h
  · cases h
  · split at h
    · cases h
    · split at h
      · cases h
      · refine ⟨by omega, by omega, by omega, by omega, by omega, by omega, fun h3 => List.eq_nil_of_length_eq_zero (by omega)⟩
theorem mMade_one {d : Ded} {v : Int} (h : mWrong d = 0) (h1 : 1 ≤ v) (h2 : v ≤ 60000) : rOne (mMade d v) = true := by
  obtain ⟨k, a, b, _, _, e, f⟩ := mWrong_zero h
  refine rOne_mk ?_ a b h1 h2 e ?_
  · unfold mMade; split <;> simp
  · unfold mMade
    intro hk
    have h2 : d.kind = 2 := by
      by_cases hh : d.kind = 2
      · exact hh
      · simp only [hh, if_false] at hk; omega
    exact f (by omega)
theorem mIdx_lt {l : List Rec} {k v : Int} : mIdx l k v < l.length ↔ ∃ r ∈ l, mHit k v r = true := by
  unfold mIdx
  rw [List.findIdx_lt_length]
theorem mHit_iff (k v : Int) (r : Rec) : mHit k v r = true ↔ r.key = k ∧ r.ver = v := by simp [mHit]
/-- What a deed makes is the key's last. -/
theorem mGet_made (l : List Rec) (d : Ded) (h3 : d.kind ≠ 3) (hk : d.kind = 1 ∨ d.kind = 2 ∨ d.kind = 3) (h : ∀ r ∈ l, rOne r = true) :
    mGet (l ++ [mMade d (mNext l)]) d.key = if d.kind = 1 then (d.data, 0) else ([], 10) := by
  have hlt : (mLast l d.key).ver < mNext l := by
    unfold mNext
    rcases mLast_right l h d.key with e | ⟨_, e⟩
    · rw [e]; have := (mMax_bd l h).1; show (0 : Int) < _; omega
    · have := mMax_ge l _ e; omega
  have e : mLast (l ++ [mMade d (mNext l)]) d.key = mMade d (mNext l) := by
    rw [mLast_snoc, if_pos ⟨rfl, hlt⟩]
  unfold mGet
  rw [e]
  unfold mMade
  rcases hk with hk | hk | hk
  · simp [hk]
  · simp [hk]
  · exact absurd hk h3
theorem mDo_purge (l : List Rec) (d : Ded) (n : Int) (hn : n = mNext l) :
    mDo (l ++ [mMade d n]) ⟨3, d.key, n, []⟩ = (l, n, 0) ∧ (mDo l ⟨3, d.key, n, []⟩).2.2 = 6 := by
  have hno : ¬ ∃ r ∈ l, mHit d.key n r = true := by
    rintro ⟨r, hr, hh⟩
    have := (mHit_iff _ _ _).1 hh
    have h2 := mMax_ge l r hr
    unfold mNext at hn
    omega
  have hidx : mIdx l d.key n = l.length := by
    have h1 : ¬ mIdx l d.key n < l.length := fun h => hno (mIdx_lt.1 h)
    have h2 : mIdx l d.key n ≤ l.length := List.findIdx_le_length
    omega
  have hidx' : mIdx (l ++ [mMade d n]) d.key n = l.length := by
    unfold mIdx at hidx ⊢
    rw [List.findIdx_append, hidx, if_neg (by omega)]
    have : mHit d.key n (mMade d n) = true := (mHit_iff _ _ _).2 ⟨rfl, rfl⟩
    simp [List.findIdx_cons, this]
  constructor
  · unfold mDo
    simp only [if_true]
    rw [hidx', if_pos (by simp)]
    simp [List.eraseIdx_append_of_length_le]
  · unfold mDo
    simp only [if_true]
    rw [hidx, if_neg (by omega)]

end Go.Proofs.Ytnganglmpcbcbaa
