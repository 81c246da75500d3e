/-
  The walk of report.Read.
-/
import Derived.Test.YtbcepdacfmbekaaDoorKRpP
import Derived.Test.YtbcepdacfmbekaaDoorPrd
import Derived.Deep.AppendLies
namespace Go.Proofs.YtbcepdacfmbekaaDoor
open Go.RowKit

def zero9 : Array Value := #[.int .i64 0, .int .i64 0, .int .i64 0, .int .i64 0, .int .i64 0, .int .i64 0, .int .i64 0, .int .i64 0, .int .i64 0]
theorem msgInfo : (Tryd.prog.info? 62).map (fun i => (i.zero, i.size, i.bytes)) = some (some (.agg zero9), 9, 72) := by kernel_rfl
/-- The cells of messages. -/
def msgsCells (ms : List Pl.Msg) : List Value := ms.flatMap fun m => m.arr.toList
theorem msgsCells_append (a b : List Pl.Msg) : msgsCells (a ++ b) = msgsCells a ++ msgsCells b := by simp [msgsCells]
theorem msgsCells_length (a : List Pl.Msg) : (msgsCells a).length = a.length * 9 := by
  induction a with
  | nil => rfl
  | cons m r ih => rw [show msgsCells (m :: r) = m.arr.toList ++ msgsCells r from rfl, List.length_append, ih]; simp [Pl.Msg.arr]; omega
theorem msgsCells_one (a : List Pl.Msg) : ∀ u ∈ msgsCells a, u.oneCell' = true := by
  intro u hu
  obtain ⟨m, _, hm⟩ := List.mem_flatMap.1 hu
  simp only [Pl.Msg.arr, List.mem_cons, List.not_mem_nil, or_false] at hm
  rcases hm with rfl | rfl | rfl | rfl | rfl | rfl | rfl | rfl | rfl <;> rfl
/-- Messages of one's own in memory. -/
abbrev Msgs (w : World) (base : Nat) (v : Value) (n : Nat) (ms : List Pl.Msg) : Prop := w.ownsRow base 62 9 v n (msgsCells ms)

/-- A message is appended to a slice of one's own. -/
theorem wpList_append_msg {ops : Array Oper} {rest : List Oper} {o : Oper} {a : Act} {w : World} {Q : Exit → Act → World → Prop} (hgd : o.guard = none) (s x : Operand)
    (ho : o.op = .call { callee := .builtin .append, args := #[s, x], argTypes := #[65, 65] }) (base : Nat) (l : List Pl.Msg) (v : Value) (hs : a.eval s = v) (hown : Msgs w base v l.length l)
    (m : Pl.Msg) (ad : Addr) (c : Nat) (hx : a.eval x = .slice (some ad) 1 c) (hnews : ∀ j u, (msgsCells [m])[j]? = some u → w.cell? (ad.add j) = some u) (hl : l.length + 1 ≤ 1000000) (hbase : base ≤ w.heap.size)
    (h : ∀ (g n c' : Nat) (w' : World), n = (l ++ [m]).length → Msgs w' base (.slice (some ⟨g, 0, none⟩) n c') n (l ++ [m]) → w.grownBy w' v.ownBlock → (v.ownBlock = some g ∨ w.heap.size ≤ g) → wpList Tryd.prog ops Q rest (a.put o.dst (.slice (some ⟨g, 0, none⟩) n c')) w') : wpList Tryd.prog ops Q (o :: rest) a w := by
  obtain ⟨inf, hinf, hinf2⟩ := Option.map_eq_some_iff.1 msgInfo
  simp only [Prod.mk.injEq] at hinf2
  obtain ⟨hz, hsz, hby⟩ := hinf2
  refine wpList_append_lies w hgd s x 65 ho base 62 inf (.agg zero9) 9 72 Tryd.underlying65 hinf hz hsz hby rfl (by decide) v l.length _ hs hown ad 1 c (msgsCells [m]) hx (by rw [msgsCells_length]; rfl) hnews (msgsCells_one [m]) (by omega) (by unfold maxLen; omega) (by omega) hbase _ rfl ?_
  intro g c' w' hown' hgrow' hat _
  exact h g _ c' w' (by simp) (by show w'.ownsRow _ _ _ _ _ _; rw [msgsCells_append]; exact hown') hgrow' (hat.imp id (fun e => by omega))

/-- What comes of reading a text. -/
def MrdPost (l : List UInt8) (w : World) (e : Ending) (w' : World) : Prop := Below w.heap.size w w' ∧ match Pl.readFrom Pl.mparse [] l with
  | .ok ms => ∃ v, e = .returned (.tuple #[v, .int .i64 0, .int .i64 0]) ∧ Msgs w' w.heap.size v ms.length ms
  | .bad n => e = .returned (.tuple #[.slice none 0 0, .int .i64 n, .int .i64 4])
theorem MrdPost.bad {l : List UInt8} {w w' : World} {n : Nat} (h : Pl.readFrom Pl.mparse [] l = .bad n) (hb : Below w.heap.size w w') : MrdPost l w (.returned (.tuple #[.slice none 0 0, .int .i64 n, .int .i64 4])) w' := by
  unfold MrdPost; rw [h]; exact ⟨hb, rfl⟩
theorem MrdPost.ok {l : List UInt8} {w w' : World} {ms : List Pl.Msg} {v : Value} (h : Pl.readFrom Pl.mparse [] l = .ok ms) (hb : Below w.heap.size w w') (ho : Msgs w' w.heap.size v ms.length ms) : MrdPost l w (.returned (.tuple #[v, .int .i64 0, .int .i64 0])) w' := by
  unfold MrdPost; rw [h]; exact ⟨hb, v, rfl, ho⟩
/-- The message's cells in a block of their own. -/
theorem msg_news {w : World} (m : Pl.Msg) : ∀ j u, (msgsCells [m])[j]? = some u → (w.alloc (.cells m.arr 62)).cell? ((⟨w.heap.size, 0, none⟩ : Addr).add j) = some u := by
  intro j u hu
  rw [show (⟨w.heap.size, 0, none⟩ : Addr).add j = ⟨w.heap.size, j, none⟩ by unfold Addr.add; split <;> simp_all, World.cell?_alloc_new]
  rw [← hu]
  simp [msgsCells]
def strSize : Value → Nat
  | .string s => s.size
  | _ => 0

set_option maxHeartbeats 4000000 in
set_option maxRecDepth 100000 in
theorem report_Read (l : List UInt8) (w : World) (hE : Env w) (hl : l.length ≤ 100000) : Calls Tryd.prog 48 #[.string ⟨l.toArray⟩] w (MrdPost l w) := by
  have HE := Lib.hid hE
  have HBAD := Lib.hid (fun w' n => @MrdPost.bad l w w' n)
  have HOK := Lib.hid (fun w' ms v => @MrdPost.ok l w w' ms v)
  clear hE
  go_enter Tryd.func48, Tryd.ntmps48
  go_wp2_with fail
  go_loopw [0, 2] (fun t v wr => ∃ (rest : List UInt8) (acc : List Pl.Msg), t = .string ⟨rest.toArray⟩ ∧ rest.length + acc.length ≤ l.length ∧ Hid (Msgs wr w.heap.size v acc.length acc) ∧ Hid (Below w.heap.size w wr) ∧ Hid (Pl.readFrom Pl.mparse [] l = Pl.readFrom Pl.mparse acc rest)) (fun t _ _ => strSize t)
  case atStart => exact ⟨l, [], rfl, by simp, World.ownsRow_nil _ _ _ _, Below.refl _ _, rfl⟩
  case round =>
    obtain ⟨rest, acc, rfl, hlen, HM, HB, HR⟩ := hrel
    obtain ⟨p, c, rfl⟩ := ownsRow_slice HM.out
    by_cases hrest : rest = []
    · subst hrest
      have HR2 := Lib.hid (HR.out.trans (Pl.readFrom_nil _ _))
      go_wp2_with fail
      go_ret3
      exact HOK.out _ _ _ HR2.out HB.out HM.out
    · have hne : rest ≠ [] := hrest
      have hne2 : (rest == []) = false := by rw [beq_eq_false_iff_ne]; exact hne
      have hne3 : rest.isEmpty = false := by cases rest with
        | nil => exact absurd rfl hrest
        | cons a r => rfl
      clear hrest
      obtain ⟨m, hm⟩ := HE.out.below (Nat.le_refl _) HB.out
      have HCut := Lib.hid (Tryd.strings_Cut ⟨rest.toArray⟩ ⟨#[10]⟩ m wr (by rw [Lib.size_eq]; simp; omega) hm)
      rw [show (⟨rest.toArray⟩ : ByteArray).data.toList = rest from rfl, show (⟨#[10]⟩ : ByteArray).data.toList = [10] from rfl, Pl.cut_one] at HCut
      have HSTEP := Lib.hid (fun m => @Pl.readFrom_step Pl.Msg Pl.mparse acc rest m hne)
      have HBD := Lib.hid (@Pl.readFrom_bad Pl.Msg Pl.mparse acc rest hne)
      have HLT := Lib.hid (Pl.cutC_lt 10 rest hne)
      have HLE := Lib.hid (Pl.cutC_le 10 rest)
      generalize Pl.cutC 10 rest = ct at *
      obtain ⟨t1, t2, is⟩ := ct
      simp only at HCut HSTEP HBD HLT HLE
      clear hm
      go_wp2_with fail
      refine HCut.out.mono ?_
      rintro e w1 ⟨rfl, nq, rfl⟩
      have HB1 : Hid (Below w.heap.size w (wr.drewN nq)) := below_drewN HB.out nq
      have HM1 : Hid (Msgs (wr.drewN nq) w.heap.size (.slice p acc.length c) acc.length acc) := HM.out.kept (grownBy_of_below' (below_drewN (Below.refl _ _) nq) none) (by cases (Value.slice p acc.length c).ownBlock <;> simp)
      clear HM HB HCut
      generalize wr.drewN nq = w2 at *
      have HC := Lib.hid (report_Parse t1 w2 (HE.out.below (Nat.le_refl _) HB1.out) (by have := HLE.out; omega))
      unfold MsgPost at HC
      go_wp2_with fail
      refine HC.out.mono ?_
      rintro e w3 ⟨hb3, hcase⟩
      have HB3 : Hid (Below w.heap.size w w3) := HB1.out.trans (hb3.mono HB1.out.size)
      have HM3 : Hid (Msgs w3 w.heap.size (.slice p acc.length c) acc.length acc) := HM1.out.kept (grownBy_of_below' hb3 none) (by cases (Value.slice p acc.length c).ownBlock <;> simp)
      have haccI : (acc.length : Int) ≤ 100000 := by omega
      clear hb3 HC HM1 HB1 hne2 hne3
      rcases hp : Pl.mparse t1 with _ | m
      · rw [hp] at hcase
        obtain rfl := hcase
        have HN := Lib.hid (HR.out.trans (HBD.out (.inr hp)))
        have HB4 : Hid (Below w.heap.size w (w3.alloc (.cells zeroMsg.arr 62))) := HB3.out.alloc HB3.out.size _
        clear hp
        unfold zeroMsg Pl.Msg.arr at *
        go_wp2_with fail
        go_ret3
        exact HBAD.out _ _ HN.out HB4.out
      · rw [hp] at hcase
        obtain rfl := hcase
        cases is with
        | false =>
          have HN := Lib.hid (HR.out.trans (HBD.out (.inl rfl)))
          have HB4 : Hid (Below w.heap.size w (w3.alloc (.cells m.arr 62))) := HB3.out.alloc HB3.out.size _
          clear hp
          unfold Pl.Msg.arr at *
          go_wp2_with fail
          go_ret3
          exact HBAD.out _ _ HN.out HB4.out
        | true =>
          have HN := Lib.hid (HR.out.trans (HSTEP.out m rfl hp))
          clear hp
          obtain ⟨m0, m1, m2, m3, m4, m5, m6, m7, m8⟩ := m
          simp only [Pl.Msg.arr]
          have HB4 : Hid (Below w.heap.size w ((w3.alloc (.cells #[.int .i64 m0, .int .i64 m1, .int .i64 m2, .int .i64 m3, .int .i64 m4, .int .i64 m5, .int .i64 m6, .int .i64 m7, .int .i64 m8] 62)).alloc (.cells #[.int .i64 m0, .int .i64 m1, .int .i64 m2, .int .i64 m3, .int .i64 m4, .int .i64 m5, .int .i64 m6, .int .i64 m7, .int .i64 m8] 62))) := (HB3.out.alloc HB3.out.size _).alloc (by simp; have := HB3.out.size; omega) _
          have HM4 : Hid (Msgs ((w3.alloc (.cells #[.int .i64 m0, .int .i64 m1, .int .i64 m2, .int .i64 m3, .int .i64 m4, .int .i64 m5, .int .i64 m6, .int .i64 m7, .int .i64 m8] 62)).alloc (.cells #[.int .i64 m0, .int .i64 m1, .int .i64 m2, .int .i64 m3, .int .i64 m4, .int .i64 m5, .int .i64 m6, .int .i64 m7, .int .i64 m8] 62)) w.heap.size (.slice p acc.length c) acc.length acc) := (HM3.out.alloc _).alloc _
          have HNW := Lib.hid (@msg_news (w3.alloc (.cells #[.int .i64 m0, .int .i64 m1, .int .i64 m2, .int .i64 m3, .int .i64 m4, .int .i64 m5, .int .i64 m6, .int .i64 m7, .int .i64 m8] 62)) ⟨m0, m1, m2, m3, m4, m5, m6, m7, m8⟩)
          rw [World.size_alloc] at HNW
          have hbase : w.heap.size ≤ ((w3.alloc (.cells #[.int .i64 m0, .int .i64 m1, .int .i64 m2, .int .i64 m3, .int .i64 m4, .int .i64 m5, .int .i64 m6, .int .i64 m7, .int .i64 m8] 62)).alloc (.cells #[.int .i64 m0, .int .i64 m1, .int .i64 m2, .int .i64 m3, .int .i64 m4, .int .i64 m5, .int .i64 m6, .int .i64 m7, .int .i64 m8] 62)).heap.size := HB4.out.size
          have hal : acc.length + 1 ≤ 1000000 := by omega
          have HK := Lib.hid ((Blk.alloc (w := w3) #[.int .i64 m0, .int .i64 m1, .int .i64 m2, .int .i64 m3, .int .i64 m4, .int .i64 m5, .int .i64 m6, .int .i64 m7, .int .i64 m8] 62))
          clear HM3 HB3
          go_wp2_with (first | (refine wpList_load_row rfl 62 _ rfl w3.heap.size rfl 62 #[.int .i64 m0, .int .i64 m1, .int .i64 m2, .int .i64 m3, .int .i64 m4, .int .i64 m5, .int .i64 m6, .int .i64 m7, .int .i64 m8] (0, 0) _ HK.out Tryd.underlying62 rfl (by kernel_rfl) ?_) | (at_builtin; go_must (refine wpList_append_msg rfl (.tmp 34) (.tmp 36) rfl w.heap.size acc (.slice p acc.length c) rfl HM4.out ⟨m0, m1, m2, m3, m4, m5, m6, m7, m8⟩ ⟨w3.heap.size + 1, 0, none⟩ 1 rfl HNW.out hal hbase ?_); intro g2 n2 c2 w5 hn hown' hgrow' hat; have HO5 := Lib.hid hown'; have HG5 := Lib.hid hgrow'; have HN5 := Lib.hid hn; clear hown' hgrow' hn hat))
          have HB5 : Hid (Below w.heap.size w w5) := HB4.out.grown HG5.out HB4.out.size (fun k hk => (HM4.out.lt k hk).1)
          have HO6 := HO5.out
          rw [HN5.out] at HO6 ⊢
          have HO7 := Lib.hid HO6
          clear HO6
          go_roundw
          case rel => exact ⟨t2, acc ++ [(⟨m0, m1, m2, m3, m4, m5, m6, m7, m8⟩ : Pl.Msg)], rfl, by have := HLT.out; simp; omega, HO7.out, HB5.out, HN.out⟩
          case measure => have := HLT.out; simp [strSize, Lib.size_eq]; omega

end Go.Proofs.YtbcepdacfmbekaaDoor
