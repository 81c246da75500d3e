/-
  The walk of damperlaw07.Plain at one symbol.
-/
import Derived.Test.YtbcepdacfmbekaaDoorKRSym
namespace Go.Proofs.YtbcepdacfmbekaaDoor
open Go.RowKit

def plainVs : List Int := [5, 1000, 2000, 500, 20, 100, 3, 10, 5, 2, 500, 500, 1, 40, 12, 1000]

def PlainPost (w : World) (e : Ending) (w' : World) : Prop := ∃ b c t, e = .returned (.agg #[.slice (some ⟨b, 0, none⟩) 1 c, t, .int .i64 10000, .int .i64 700, .int .i64 1300, .int .i64 2000, .int .i64 15, .int .i64 30]) ∧ Below w.heap.size w w' ∧ w'.ownsRow w.heap.size 29 16 (.slice (some ⟨b, 0, none⟩) 1 c) 1 (symArr plainVs).toList

theorem symInfo : (Tryd.prog.info? 29).map (fun i => (i.zero, i.size, i.bytes)) = some (some (.agg zero16), 16, 128) := by kernel_rfl

theorem grownBy_setRow (w : World) (b : Nat) (cs : Array Value) : w.grownBy (w.setRow b cs) (some b) :=
  ⟨rfl, rfl, rfl, by rw [setRow_size]; exact Nat.le_refl _, fun k _ hne => setRow_other w b k cs (by intro e; exact hne (by rw [e]))⟩
theorem plain_at {j : Nat} {u : Value} (h : (symArr plainVs).toList[j]? = some u) : (#[.int .i64 5, .int .i64 1000, .int .i64 2000, .int .i64 500, .int .i64 20, .int .i64 100, .int .i64 3, .int .i64 10, .int .i64 5, .int .i64 2, .int .i64 500, .int .i64 500, .int .i64 1, .int .i64 40, .int .i64 12, .int .i64 1000] : Array Value)[j]? = some u := by
  rw [← h]
  simp [symArr, plainVs]
theorem plain_one : ∀ u ∈ (symArr plainVs).toList, u.oneCell' = true := by
  simp [symArr, plainVs, Value.oneCell']

set_option maxHeartbeats 8000000 in
set_option maxRecDepth 100000 in
theorem L07_Plain (w : World) : Calls Tryd.prog 61 #[.int .i64 1] w (PlainPost w) := by
  go_enter Tryd.func61, Tryd.ntmps61
  go_wp2_with fail
  obtain ⟨W0, hW0⟩ : ∃ W0, W0 = (((w.alloc (.cells #[.slice none 0 0, .slice none 0 0, .int .i64 0, .int .i64 0, .int .i64 0, .int .i64 0, .int .i64 0, .int .i64 0] 53)).alloc (.cells #[.int .i64 5, .int .i64 1000, .int .i64 2000, .int .i64 500, .int .i64 20, .int .i64 100, .int .i64 3, .int .i64 10, .int .i64 5, .int .i64 2, .int .i64 500, .int .i64 500, .int .i64 1, .int .i64 40, .int .i64 12, .int .i64 1000] 29)).alloc (.cells #[.int .i64 5, .int .i64 1, .int .i64 10, .int .i64 2, .int .i64 500, .int .i64 0] 24)).alloc (.cells #[.slice none 0 0, .slice (some ⟨w.heap.size + 1 + 1, 0, none⟩) 3 3, .int .i64 10000, .int .i64 700, .int .i64 1300, .int .i64 2000, .int .i64 15, .int .i64 30] 53) := ⟨_, rfl⟩
  have hb0 : Hid (Below w.heap.size w W0) := by rw [hW0]; exact ((((Below.refl _ _).alloc (Nat.le_refl _) _).alloc (by simp) _).alloc (by simp; omega) _).alloc (by simp; omega) _
  have hs0 : W0.heap.size = w.heap.size + 1 + 1 + 1 + 1 := by rw [hW0]; simp
  have hk0 : Hid (Blk W0 w.heap.size #[.slice none 0 0, .slice none 0 0, .int .i64 0, .int .i64 0, .int .i64 0, .int .i64 0, .int .i64 0, .int .i64 0] 53) := by
    rw [hW0]
    exact (((Blk.alloc (w := w) #[.slice none 0 0, .slice none 0 0, .int .i64 0, .int .i64 0, .int .i64 0, .int .i64 0, .int .i64 0, .int .i64 0] 53).grown (r := none) (by simp) (World.grownBy_alloc _ _ _)).grown (r := none) (by simp) (World.grownBy_alloc _ _ _)).grown (r := none) (by simp) (World.grownBy_alloc _ _ _)
  have hk1 : Hid (Blk W0 (w.heap.size + 1) #[.int .i64 5, .int .i64 1000, .int .i64 2000, .int .i64 500, .int .i64 20, .int .i64 100, .int .i64 3, .int .i64 10, .int .i64 5, .int .i64 2, .int .i64 500, .int .i64 500, .int .i64 1, .int .i64 40, .int .i64 12, .int .i64 1000] 29) := by
    rw [hW0]
    have h := Blk.alloc (w := w.alloc (.cells #[.slice none 0 0, .slice none 0 0, .int .i64 0, .int .i64 0, .int .i64 0, .int .i64 0, .int .i64 0, .int .i64 0] 53)) #[.int .i64 5, .int .i64 1000, .int .i64 2000, .int .i64 500, .int .i64 20, .int .i64 100, .int .i64 3, .int .i64 10, .int .i64 5, .int .i64 2, .int .i64 500, .int .i64 500, .int .i64 1, .int .i64 40, .int .i64 12, .int .i64 1000] 29
    rw [World.size_alloc] at h
    exact (h.grown (r := none) (by simp) (World.grownBy_alloc _ _ _)).grown (r := none) (by simp) (World.grownBy_alloc _ _ _)
  have hk3 : Hid (Blk W0 (w.heap.size + 1 + 1 + 1) #[.slice none 0 0, .slice (some ⟨w.heap.size + 1 + 1, 0, none⟩) 3 3, .int .i64 10000, .int .i64 700, .int .i64 1300, .int .i64 2000, .int .i64 15, .int .i64 30] 53) := by
    rw [hW0]
    have h := Blk.alloc (w := ((w.alloc (.cells #[.slice none 0 0, .slice none 0 0, .int .i64 0, .int .i64 0, .int .i64 0, .int .i64 0, .int .i64 0, .int .i64 0] 53)).alloc (.cells #[.int .i64 5, .int .i64 1000, .int .i64 2000, .int .i64 500, .int .i64 20, .int .i64 100, .int .i64 3, .int .i64 10, .int .i64 5, .int .i64 2, .int .i64 500, .int .i64 500, .int .i64 1, .int .i64 40, .int .i64 12, .int .i64 1000] 29)).alloc (.cells #[.int .i64 5, .int .i64 1, .int .i64 10, .int .i64 2, .int .i64 500, .int .i64 0] 24)) #[.slice none 0 0, .slice (some ⟨w.heap.size + 1 + 1, 0, none⟩) 3 3, .int .i64 10000, .int .i64 700, .int .i64 1300, .int .i64 2000, .int .i64 15, .int .i64 30] 53
    simp only [World.size_alloc] at h
    exact h
  rw [← hW0]
  clear hW0
  have HS0 := Lib.hid hs0
  clear hs0
  obtain ⟨inf, hinf, hinf2⟩ := Option.map_eq_some_iff.1 symInfo
  simp only [Prod.mk.injEq] at hinf2
  obtain ⟨hz, hsi, hby⟩ := hinf2
  have HI := Lib.hid hinf
  have HZ := Lib.hid hz
  have HS := Lib.hid hsi
  have HB := Lib.hid hby
  clear hinf hz hsi hby
  have hq3 : W0.cell? ⟨w.heap.size + 1 + 1 + 1, 0, none⟩ = some (.slice none 0 0) := hk3.out.cell 0
  refine wp_loop_rounds 2 ?_
  rw [rounds_succ]
  go_wp2_with (first | refine wpList_load_row rfl 29 _ rfl (w.heap.size + 1) rfl 29 #[.int .i64 5, .int .i64 1000, .int .i64 2000, .int .i64 500, .int .i64 20, .int .i64 100, .int .i64 3, .int .i64 10, .int .i64 5, .int .i64 2, .int .i64 500, .int .i64 500, .int .i64 1, .int .i64 40, .int .i64 12, .int .i64 1000] (0, 0) ((Tryd.prog.underlying 29).get (by kernel_rfl)) hk1.out (by simp) (by kernel_rfl) (by kernel_rfl) ?_ | (at_builtin; go_must (refine wpList_append_own _ rfl (.tmp 20) (.tmp 22) 48 rfl W0.heap.size 29 inf (.agg zero16) 16 128 Tryd.underlying48 HI.out HZ.out HS.out HB.out rfl (by decide) _ 0 _ rfl (World.ownsRow_nil _ _ _ _) ⟨W0.heap.size, 0, none⟩ 1 1 (symArr plainVs).toList rfl rfl ?hnews ?hone (by unfold maxLen; omega) (by omega) ?hsz ?_); (case hnews => intro j u hu; rw [show (⟨W0.heap.size, 0, none⟩ : Addr).add j = ⟨W0.heap.size, j, none⟩ by unfold Addr.add; split <;> simp_all, World.cell?_alloc_new]; exact plain_at hu); (case hone => exact plain_one); (case hsz => rw [World.size_alloc]; omega); intro v' w' hown' hgrow' hnn; obtain ⟨g', c', rfl, hg1, hg2⟩ := World.ownsRow.form hown' (by omega); have HOWN := Lib.hid hown'; have HGR := Lib.hid hgrow'; clear hown' hgrow' hnn; have hkk : Hid (Blk w' (w.heap.size + 1 + 1 + 1) #[.slice none 0 0, .slice (some ⟨w.heap.size + 1 + 1, 0, none⟩) 3 3, .int .i64 10000, .int .i64 700, .int .i64 1300, .int .i64 2000, .int .i64 15, .int .i64 30] 53) := (hk3.out.grown (r := none) (by simp) (World.grownBy_alloc _ _ _)).grown (r := none) (by simp) HGR.out; have hqq : w'.cell? ⟨w.heap.size + 1 + 1 + 1, 0, none⟩ = some (.slice none 0 0) := hkk.out.cell 0; have hzz : w'.frozen? ⟨w.heap.size + 1 + 1 + 1, 0, none⟩ = false := hkk.out.frozen 0))
  have hs0 := HS0.out
  obtain ⟨W5, hW5⟩ : ∃ W5, W5 = w'.setCell ⟨w.heap.size + 1 + 1 + 1, 0, none⟩ (.slice (some ⟨g', 0, none⟩) 1 c') := ⟨_, rfl⟩
  have hf : Hid (Blk W5 (w.heap.size + 1 + 1 + 1) #[(.slice (some ⟨g', 0, none⟩) 1 c'), .slice (some ⟨w.heap.size + 1 + 1, 0, none⟩) 3 3, .int .i64 10000, .int .i64 700, .int .i64 1300, .int .i64 2000, .int .i64 15, .int .i64 30] 53) := by rw [hW5]; exact hkk.out.set 0 _
  have hr0 : Hid (Blk W5 w.heap.size #[.slice none 0 0, .slice none 0 0, .int .i64 0, .int .i64 0, .int .i64 0, .int .i64 0, .int .i64 0, .int .i64 0] 53) := by
    rw [hW5]
    exact ((hk0.out.grown (r := none) (by simp) (World.grownBy_alloc _ _ _)).grown (r := none) (by simp) HGR.out).set_other _ (by simp; omega) _
  have hb5 : Below w.heap.size w W5 := by
    rw [hW5]
    exact ((hb0.out.alloc (by omega) _).grown HGR.out (by rw [World.size_alloc]; omega) (fun k hk => by cases hk)).setCell (p := ⟨w.heap.size + 1 + 1 + 1, 0, none⟩) (by show w.heap.size ≤ w.heap.size + 1 + 1 + 1; omega) _
  have ho5 : W5.ownsRow W0.heap.size 29 16 (.slice (some ⟨g', 0, none⟩) 1 c') 1 (symArr plainVs).toList := by
    rw [hW5]
    exact HOWN.out.kept (grownBy_setCell _ _ _ _) (.inr (by simp [Value.ownBlock]; omega))
  have HFIN : Hid (PlainPost w (.returned (.agg #[(.slice (some ⟨g', 0, none⟩) 1 c'), .slice (some ⟨w.heap.size + 1 + 1, 0, none⟩) 3 3, .int .i64 10000, .int .i64 700, .int .i64 1300, .int .i64 2000, .int .i64 15, .int .i64 30])) (W5.setRow w.heap.size #[(.slice (some ⟨g', 0, none⟩) 1 c'), .slice (some ⟨w.heap.size + 1 + 1, 0, none⟩) 3 3, .int .i64 10000, .int .i64 700, .int .i64 1300, .int .i64 2000, .int .i64 15, .int .i64 30])) :=
    ⟨g', c', _, rfl, below_setRow hb5 (Nat.le_refl _), ownsRow_base (by omega) (ho5.kept (grownBy_setRow _ _ _) (.inr (by simp [Value.ownBlock]; omega)))⟩
  have hkf : Hid (Blk (W5.setRow w.heap.size #[(.slice (some ⟨g', 0, none⟩) 1 c'), .slice (some ⟨w.heap.size + 1 + 1, 0, none⟩) 3 3, .int .i64 10000, .int .i64 700, .int .i64 1300, .int .i64 2000, .int .i64 15, .int .i64 30]) w.heap.size #[(.slice (some ⟨g', 0, none⟩) 1 c'), .slice (some ⟨w.heap.size + 1 + 1, 0, none⟩) 3 3, .int .i64 10000, .int .i64 700, .int .i64 1300, .int .i64 2000, .int .i64 15, .int .i64 30] 53) := setRow_heap _ _ _ _ _ _ hr0.out
  rw [← hW5]
  clear hW5 hb5 ho5 hs0 hqq hzz hq3
  rw [rounds_succ]
  go_wp2_with (first | refine wpList_load_row rfl 53 _ rfl (w.heap.size + 1 + 1 + 1) rfl 53 #[(.slice (some ⟨g', 0, none⟩) 1 c'), .slice (some ⟨w.heap.size + 1 + 1, 0, none⟩) 3 3, .int .i64 10000, .int .i64 700, .int .i64 1300, .int .i64 2000, .int .i64 15, .int .i64 30] (0, 0) ((Tryd.prog.underlying 53).get (by kernel_rfl)) hf.out (by simp) (by kernel_rfl) (by kernel_rfl) ?_ | refine wpList_store_row rfl 53 _ _ rfl w.heap.size #[(.slice (some ⟨g', 0, none⟩) 1 c'), .slice (some ⟨w.heap.size + 1 + 1, 0, none⟩) 3 3, .int .i64 10000, .int .i64 700, .int .i64 1300, .int .i64 2000, .int .i64 15, .int .i64 30] rfl rfl 53 #[.slice none 0 0, .slice none 0 0, .int .i64 0, .int .i64 0, .int .i64 0, .int .i64 0, .int .i64 0, .int .i64 0] hr0.out (by kernel_rfl) rfl (by kernel_rfl) ?_)
  exact bodyPost_ret (v := .agg #[(.slice (some ⟨g', 0, none⟩) 1 c'), .slice (some ⟨w.heap.size + 1 + 1, 0, none⟩) 3 3, .int .i64 10000, .int .i64 700, .int .i64 1300, .int .i64 2000, .int .i64 15, .int .i64 30]) (results_cell_row rfl _ _ w.heap.size 53 #[(.slice (some ⟨g', 0, none⟩) 1 c'), .slice (some ⟨w.heap.size + 1 + 1, 0, none⟩) 3 3, .int .i64 10000, .int .i64 700, .int .i64 1300, .int .i64 2000, .int .i64 15, .int .i64 30] (0, 0) ((Tryd.prog.underlying 53).get (by kernel_rfl)) rfl hkf.out (by simp) (by kernel_rfl) (by kernel_rfl)) rfl HFIN.out

end Go.Proofs.YtbcepdacfmbekaaDoor
