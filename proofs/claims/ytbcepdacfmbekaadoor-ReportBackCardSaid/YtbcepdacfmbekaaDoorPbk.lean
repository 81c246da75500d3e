/-
  Plain: what is written is read back (package report). No program in sight.
-/
import Derived.Test.YtbcepdacfmbekaaDoorPm
import Derived.Test.YtbcepdacfmbekaaDoorPrd
import Derived.Test.YtbcepdacfmbekaaDoorPtx
namespace Go.Proofs.YtbcepdacfmbekaaDoor.Pl
variable {M : Type}

theorem cutC_line {l r : List UInt8} (h : l.count 10 = 0) : cutC 10 (l ++ 10 :: r) = (l, r, true) := by
  induction l with
  | nil => simp [cutC]
  | cons b t ih =>
    rw [List.count_cons] at h
    have hb : (b == 10) = false := by
      cases hh : (b == 10) with
      | false => rfl
      | true => rw [hh] at h; simp at h
    rw [List.cons_append, cutC, hb, ih (by omega)]
    simp

/-- A text of lines is read as what they are. -/
theorem read_text {p : M → Option (List UInt8)} {q : List UInt8 → Option M} {G : M → Prop} (hq : ∀ m l, G m → p m = some l → q l = some m ∧ l.count 10 = 0) : ∀ (ms : List M) (a t : List UInt8), (∀ m ∈ ms, G m) → txtFrom p a ms = some t → ∃ u, t = a ++ u ∧ ∀ acc, readFrom q acc u = .ok (acc ++ ms) := by
  intro ms
  induction ms with
  | nil =>
    intro a t _ h
    rw [txtFrom] at h
    injection h with h
    exact ⟨[], by simp [h], fun acc => by rw [readFrom_nil]; simp⟩
  | cons m r ih =>
    intro a t hg h
    cases hp : p m with
    | none => rw [txtFrom_none hp] at h; cases h
    | some l =>
      rw [txtFrom_some hp] at h
      obtain ⟨u, h1, h2⟩ := ih _ _ (fun x hx => hg x (List.mem_cons_of_mem _ hx)) h
      obtain ⟨g1, g2⟩ := hq m l (hg m (by simp)) hp
      refine ⟨l ++ 10 :: u, by rw [h1]; simp, fun acc => ?_⟩
      have hc := cutC_line (r := u) g2
      rw [readFrom_step (m := m) (by simp) (by rw [hc]) (by rw [hc]; exact g1), hc, h2]
      simp

theorem decimal_count10 (n : Int) : (decimal n).count 10 = 0 := by
  unfold decimal
  split
  · rw [List.count_cons, digits_count _ _ (by decide)]; rfl
  · exact digits_count _ _ (by decide)
theorem kword_count10 (k : Int) : (kword k).count 10 = 0 := by
  unfold kword
  split
  · rfl
  · obtain ⟨n, rfl⟩ : ∃ n : Nat, k = n := ⟨k.toNat, by omega⟩
    have h : ∀ n : Nat, n < 10 → (kindWords.getD n []).count 10 = 0 := by decide
    exact h _ (by omega)
theorem mtext_count10 (m : Msg) : (mtext m).count 10 = 0 := by
  unfold mtext mwords
  simp [Lib.join_cons, Lib.joinTail, List.count_append, decimal_count10, kword_count10]

/-- A message's line is parsed to it. -/
theorem mparse_mline {m : Msg} {l : List UInt8} (h : mline m = some l) (hi : ∀ n ∈ [m.seq, m.tick, m.sym, m.id, m.wth, m.price, m.qty, m.code], -9223372036854775808 ≤ n ∧ n ≤ 9223372036854775807) : mparse l = some m := by
  have hr : msgRight m = true := by
    unfold mline at h
    split at h
    · assumption
    · cases h
  have hl : mtext m = l := by
    unfold mline at h
    rw [if_pos hr] at h
    simpa using h
  have hne : l ≠ [] := by
    rw [← hl]
    unfold mtext mwords
    simp [Lib.join_cons, Lib.joinTail]
  have hs : split l = mwords m := by
    unfold split
    rw [if_neg (by simpa using hne), ← hl]
    exact splitC_join _ (by simp [mwords]) (mwords_count m)
  have k : ∀ n ∈ [m.seq, m.tick, m.sym, m.id, m.wth, m.price, m.qty, m.code], (number (decimal n)).1 = n := fun n hn => by rw [number_decimal (hi n hn).1 (hi n hn).2]
  have hmk := (of_decide_eq_true hr : MsgOk m).1
  have hm : msgOf (split l) = m := by
    rw [hs]
    obtain ⟨kind, sym, seq, tick, id, wth, price, qty, code⟩ := m
    simp only at hmk
    simp only [msgOf, numAt, mwords, List.getD_cons_zero, List.getD_cons_succ]
    rw [kword_kindOf hmk.1 hmk.2, k sym (by simp), k seq (by simp), k tick (by simp), k id (by simp), k wth (by simp), k price (by simp), k qty (by simp), k code (by simp)]
  rw [← refMparse_eq]
  unfold refMparse
  rw [if_pos (by rw [hs]; rfl), hm, if_pos h]
/-- What is parsed has just that line. -/
theorem mline_mparse {m : Msg} {l : List UInt8} (h : mparse l = some m) : mline m = some l := by
  rw [← refMparse_eq] at h
  unfold refMparse at h
  split at h
  · split at h
    · rename_i h2
      injection h with h
      rw [← h]; exact h2
    · cases h
  · cases h

end Go.Proofs.YtbcepdacfmbekaaDoor.Pl
