/- The law's helper works: a disk that is cut. -/
import Derived.Lib.SlBytesConst
import Derived.Test.YtplnkpbfnpajjaaSecLike
namespace Go.Proofs.Ytplnkpbfnpajjaa.Sec
open Go.RowKit Go.Maps

/-- The blocks of S below n, and all from m on. -/
def Beside (S : Nat → Prop) (n m : Nat) : Nat → Prop := fun b => (S b ∧ b < n) ∨ m ≤ b
theorem DiskAt.beside {w w2 : World} {S : Nat → Prop} {d : Nat} {D : Dsk} (h : DiskAt w S d D) (hg : w.grownBy w2 none) : DiskAt w2 (Beside S w.heap.size w2.heap.size) d D :=
  (h.mono (T := Beside S w.heap.size w2.heap.size) (fun _ hk hs => .inl ⟨hs, hk⟩)).grown hg
theorem beside_not {S : Nat → Prop} {n m b : Nat} (h1 : n ≤ b) (h2 : b < m) : ¬ Beside S n m b := by
  rintro (⟨_, h⟩ | h) <;> omega
theorem beside_new {S : Nat → Prop} {n m : Nat} : ∀ b, m ≤ b → Beside S n m b := fun _ h => .inr h
/-- Nothing below n turns. -/
theorem Off.from {S : Nat → Prop} {w w' : World} {n : Nat} (h : Off S w w') (hS : ∀ b, S b → n ≤ b) : Off (fun b => n ≤ b) w w' := h.mono (fun b _ hs => hS b hs)
theorem range_blk {w : World} {l : List UInt8} {g : Nat} {C : Array Value} {t : TypeId} {fr : Nat × Nat} (h : w.heap[g]? = some (.cells C t fr)) (hC : C.toList = u8s l) : w.rangeAt g 0 (u8s l) := fun j v hv => by
  simp only [World.cell?, h, Nat.zero_add]
  rw [← hC] at hv
  simpa using hv
theorem range_head {w : World} {g o : Nat} {l : List UInt8} (h : w.rangeAt g o (u8s l)) (k : Nat) : w.rangeAt g o (u8s (l.take k)) := fun j v hv => h j v (by
  simp only [u8s, List.map_take] at hv ⊢
  rw [List.getElem?_take] at hv
  split at hv
  · exact hv
  · cases hv)

set_option maxRecDepth 100000 in
set_option maxHeartbeats 4000000 in
theorem works_at (w : World) : Calls Try.prog 7 #[] w fun e w' => e = .returned (.bool true) ∧ Off (fun _ => False) w w' := by
  obtain ⟨n, hn⟩ : ∃ n, n = w.heap.size := ⟨_, rfl⟩
  have HN := Lib.hid hn
  clear hn
  go_enter Try.func7, Try.ntmps7
  go_wp2_with fail
  refine (new_at 2 w).mono ?_
  rintro e v0 ⟨d, rfl, hd, ho⟩
  rw [← HN.out] at hd
  have HD0 : Hid (DiskAt v0 (fun b => n ≤ b) d (freshDisk 2)) := hd
  have HO0 : Hid (Off (fun b => n ≤ b) w v0) := ho.from (fun _ h => h.elim)
  clear hd ho
  have kc := fun (w : World) (C : Array Value) (n c : Nat) => Lib.run_convert_bytes_const (P := Try.prog) w 29 5 C n c Try.underlying29 Try.underlying5
  obtain ⟨S0, hS0⟩ : ∃ S : Nat → Prop, S = fun b => n ≤ b := ⟨_, rfl⟩
  have HSN0 : Hid (∀ b, S0 b → n ≤ b) := by rw [hS0]; exact fun _ h => h
  have hd : DiskAt v0 S0 d (freshDisk 2) := by rw [hS0]; exact HD0.out
  clear HD0 hS0
  obtain ⟨D0, hD0⟩ : ∃ D, D = freshDisk 2 := ⟨_, rfl⟩
  rw [← hD0] at hd
  have HD0 := Lib.hid hd
  have HDQ0 := Lib.hid hD0
  have HDL0 : Hid (D0.wr.length < 1000000) := by show _ < _; rw [hD0]; decide
  have HSZ0 : Hid (n ≤ v0.heap.size) := by have h1 := HO0.out.size; have h2 := HN.out; show n ≤ _; omega
  clear hd hD0
  go_wp2_with fail
  -- write 1
  have hg := World.grownBy_alloc v0 (.cells #[.int .u8 65, .int .u8 66] 5 (2, 3)) none
  have hd := HD0.out.beside hg
  have hr : RowB (v0.alloc (.cells #[.int .u8 65, .int .u8 66] 5 (2, 3))) (Beside S0 v0.heap.size (v0.alloc (.cells #[.int .u8 65, .int .u8 66] 5 (2, 3))).heap.size) (some ⟨v0.heap.size, 0, none⟩) [65, 66] :=
    .inr ⟨v0.heap.size, 0, rfl, beside_not (Nat.le_refl _) (by rw [World.size_alloc]; omega), range_blk (MapKept.heap_alloc v0 _).1 rfl⟩
  have hs : v0.heap.size < (v0.alloc (.cells #[.int .u8 65, .int .u8 66] 5 (2, 3))).heap.size := by rw [World.size_alloc]; omega
  have hoa : Off (fun b => n ≤ b) v0 (v0.alloc (.cells #[.int .u8 65, .int .u8 66] 5 (2, 3))) := Off.of_grown hg (by simp)
  obtain ⟨S1, hS1⟩ : ∃ S, S = Beside S0 v0.heap.size (v0.alloc (.cells #[.int .u8 65, .int .u8 66] 5 (2, 3))).heap.size := ⟨_, rfl⟩
  have hsn : ∀ b, S1 b → n ≤ b := by
    intro b hb
    rw [hS1] at hb
    rcases hb with ⟨h, _⟩ | h
    · exact HSN0.out b h
    · have := HSZ0.out; omega
  have hcl : ∀ b, (v0.alloc (.cells #[.int .u8 65, .int .u8 66] 5 (2, 3))).heap.size ≤ b → S1 b := by rw [hS1]; exact beside_new
  rw [← hS1] at hd hr
  have HW1 := Lib.hid (write_at S1 d 0 D0 [65, 66] (some ⟨v0.heap.size, 0, none⟩) 2 _ hd hr hcl (by exact HDL0.out))
  have HSN1 := Lib.hid hsn
  have HOA1 : Hid (Off (fun b => n ≤ b) w (v0.alloc (.cells #[.int .u8 65, .int .u8 66] 5 (2, 3))) ∧ n ≤ (v0.alloc (.cells #[.int .u8 65, .int .u8 66] 5 (2, 3))).heap.size) := ⟨HO0.out.trans hoa, by have := HSZ0.out; omega⟩
  clear hg hd hr hs hoa hsn hcl hS1
  go_wp2_with fail
  refine HW1.out.mono ?_
  rintro e v1 ⟨rfl, hd, ho⟩
  obtain ⟨D1, hD1⟩ : ∃ D, D = (wrote D0 0 [65, 66]).2 := ⟨_, rfl⟩
  rw [← hD1] at hd
  have HD1 := Lib.hid hd
  have HE1 : Hid ((wrote D0 0 [65, 66]).1 = 0 ∧ D1 = D0.push 0 (pad [65, 66])) := by
    have hq := HDQ0.out
    rw [hD1]
    unfold wrote askedN
    rw [hq]
    exact ⟨rfl, rfl⟩
  have HDQ1 : Hid (D1 = (freshDisk 2).push 0 (pad [65, 66])) := HE1.out.2.trans (by rw [HDQ0.out])
  have HDL1 : Hid (D1.wr.length < 1000000) := by show _ < _; rw [HDQ1.out]; decide
  have HO1 : Hid (Off (fun b => n ≤ b) w v1) := HOA1.out.1.trans (ho.from HSN1.out)
  have HSZ1 : Hid (n ≤ v1.heap.size) := by have h1 := HOA1.out.2; have h2 := ho.size; show n ≤ _; omega
  rw [HE1.out.1]
  clear hd ho hD1 HW1 HOA1
  go_wp2_with fail
  -- write 2
  have hg := World.grownBy_alloc v1 (.cells #[.int .u8 67] 5 (1, 2)) none
  have hd := HD1.out.beside hg
  have hr : RowB (v1.alloc (.cells #[.int .u8 67] 5 (1, 2))) (Beside S1 v1.heap.size (v1.alloc (.cells #[.int .u8 67] 5 (1, 2))).heap.size) (some ⟨v1.heap.size, 0, none⟩) [67] :=
    .inr ⟨v1.heap.size, 0, rfl, beside_not (Nat.le_refl _) (by rw [World.size_alloc]; omega), range_blk (MapKept.heap_alloc v1 _).1 rfl⟩
  have hs : v1.heap.size < (v1.alloc (.cells #[.int .u8 67] 5 (1, 2))).heap.size := by rw [World.size_alloc]; omega
  have hoa : Off (fun b => n ≤ b) v1 (v1.alloc (.cells #[.int .u8 67] 5 (1, 2))) := Off.of_grown hg (by simp)
  obtain ⟨S2, hS2⟩ : ∃ S, S = Beside S1 v1.heap.size (v1.alloc (.cells #[.int .u8 67] 5 (1, 2))).heap.size := ⟨_, rfl⟩
  have hsn : ∀ b, S2 b → n ≤ b := by
    intro b hb
    rw [hS2] at hb
    rcases hb with ⟨h, _⟩ | h
    · exact HSN1.out b h
    · have := HSZ1.out; omega
  have hcl : ∀ b, (v1.alloc (.cells #[.int .u8 67] 5 (1, 2))).heap.size ≤ b → S2 b := by rw [hS2]; exact beside_new
  rw [← hS2] at hd hr
  have HW2 := Lib.hid (write_at S2 d 1 D1 [67] (some ⟨v1.heap.size, 0, none⟩) 1 _ hd hr hcl (by exact HDL1.out))
  have HSN2 := Lib.hid hsn
  have HOA2 : Hid (Off (fun b => n ≤ b) w (v1.alloc (.cells #[.int .u8 67] 5 (1, 2))) ∧ n ≤ (v1.alloc (.cells #[.int .u8 67] 5 (1, 2))).heap.size) := ⟨HO1.out.trans hoa, by have := HSZ1.out; omega⟩
  clear hg hd hr hs hoa hsn hcl hS2
  go_wp2_with fail
  refine HW2.out.mono ?_
  rintro e v2 ⟨rfl, hd, ho⟩
  obtain ⟨D2, hD2⟩ : ∃ D, D = (wrote D1 1 [67]).2 := ⟨_, rfl⟩
  rw [← hD2] at hd
  have HD2 := Lib.hid hd
  have HE2 : Hid ((wrote D1 1 [67]).1 = 0 ∧ D2 = D1.push 1 (pad [67])) := by
    have hq := HDQ1.out
    rw [hD2]
    unfold wrote askedN
    rw [hq]
    exact ⟨rfl, rfl⟩
  have HDQ2 : Hid (D2 = ((freshDisk 2).push 0 (pad [65, 66])).push 1 (pad [67])) := HE2.out.2.trans (by rw [HDQ1.out])
  have HDL2 : Hid (D2.wr.length < 1000000) := by show _ < _; rw [HDQ2.out]; decide
  have HO2 : Hid (Off (fun b => n ≤ b) w v2) := HOA2.out.1.trans (ho.from HSN2.out)
  have HSZ2 : Hid (n ≤ v2.heap.size) := by have h1 := HOA2.out.2; have h2 := ho.size; show n ≤ _; omega
  rw [HE2.out.1]
  clear hd ho hD2 HW2 HOA2
  go_wp2_with fail
  -- write 3
  have hg := World.grownBy_alloc v2 (.cells #[.int .u8 68] 5 (1, 2)) none
  have hd := HD2.out.beside hg
  have hr : RowB (v2.alloc (.cells #[.int .u8 68] 5 (1, 2))) (Beside S2 v2.heap.size (v2.alloc (.cells #[.int .u8 68] 5 (1, 2))).heap.size) (some ⟨v2.heap.size, 0, none⟩) [68] :=
    .inr ⟨v2.heap.size, 0, rfl, beside_not (Nat.le_refl _) (by rw [World.size_alloc]; omega), range_blk (MapKept.heap_alloc v2 _).1 rfl⟩
  have hs : v2.heap.size < (v2.alloc (.cells #[.int .u8 68] 5 (1, 2))).heap.size := by rw [World.size_alloc]; omega
  have hoa : Off (fun b => n ≤ b) v2 (v2.alloc (.cells #[.int .u8 68] 5 (1, 2))) := Off.of_grown hg (by simp)
  obtain ⟨S3, hS3⟩ : ∃ S, S = Beside S2 v2.heap.size (v2.alloc (.cells #[.int .u8 68] 5 (1, 2))).heap.size := ⟨_, rfl⟩
  have hsn : ∀ b, S3 b → n ≤ b := by
    intro b hb
    rw [hS3] at hb
    rcases hb with ⟨h, _⟩ | h
    · exact HSN2.out b h
    · have := HSZ2.out; omega
  have hcl : ∀ b, (v2.alloc (.cells #[.int .u8 68] 5 (1, 2))).heap.size ≤ b → S3 b := by rw [hS3]; exact beside_new
  rw [← hS3] at hd hr
  have HW3 := Lib.hid (write_at S3 d 0 D2 [68] (some ⟨v2.heap.size, 0, none⟩) 1 _ hd hr hcl (by exact HDL2.out))
  have HSN3 := Lib.hid hsn
  have HOA3 : Hid (Off (fun b => n ≤ b) w (v2.alloc (.cells #[.int .u8 68] 5 (1, 2))) ∧ n ≤ (v2.alloc (.cells #[.int .u8 68] 5 (1, 2))).heap.size) := ⟨HO2.out.trans hoa, by have := HSZ2.out; omega⟩
  clear hg hd hr hs hoa hsn hcl hS3
  go_wp2_with fail
  refine HW3.out.mono ?_
  rintro e v3 ⟨rfl, hd, ho⟩
  obtain ⟨D3, hD3⟩ : ∃ D, D = (wrote D2 0 [68]).2 := ⟨_, rfl⟩
  rw [← hD3] at hd
  have HD3 := Lib.hid hd
  have HE3 : Hid ((wrote D2 0 [68]).1 = 0 ∧ D3 = D2.push 0 (pad [68])) := by
    have hq := HDQ2.out
    rw [hD3]
    unfold wrote askedN
    rw [hq]
    exact ⟨rfl, rfl⟩
  have HDQ3 : Hid (D3 = (((freshDisk 2).push 0 (pad [65, 66])).push 1 (pad [67])).push 0 (pad [68])) := HE3.out.2.trans (by rw [HDQ2.out])
  have HDL3 : Hid (D3.wr.length < 1000000) := by show _ < _; rw [HDQ3.out]; decide
  have HO3 : Hid (Off (fun b => n ≤ b) w v3) := HOA3.out.1.trans (ho.from HSN3.out)
  have HSZ3 : Hid (n ≤ v3.heap.size) := by have h1 := HOA3.out.2; have h2 := ho.size; show n ≤ _; omega
  rw [HE3.out.1]
  clear hd ho hD3 HW3 HOA3
  go_wp2_with fail
  refine (cut_at S3 d D3 2 v3 HD3.out (by exact HDL3.out)).mono ?_
  rintro e v4 ⟨c, rfl, hdc, hoc⟩
  have hcq : D3.cut 2 = ⟨2, (D3.cut 2).base, fun k => if k = 1 then pad [67] else if k = 0 then pad [65, 66] else noughts, [], none, false⟩ := by rw [HDQ3.out]; rfl
  have hc0 : (D3.cut 2).now 0 = pad [65, 66] := by rw [hcq]; rfl
  have hcn : 0 < (D3.cut 2).n := by rw [hcq]; exact Nat.succ_pos 1
  have hcf : (D3.cut 2).off = false := rfl
  have HR4 := Lib.hid (read_told _ c 0 (D3.cut 2) v4 hdc hcn hcf)
  have HD4 : Hid (DiskAt v4 S3 d D3) := HD3.out.grown hoc.none
  have HO4 := Lib.hid hoc
  clear hdc hoc hcq hcn hcf
  go_wp2_with fail
  refine HR4.out.mono ?_
  rintro e v5 ⟨rfl, hl5, hr5, hs5, hg5, _⟩
  rw [hc0] at hr5
  have HD5 : Hid (DiskAt v5 S3 d D3) := HD4.out.grown hg5
  have hd0 : D3.now 0 = pad [68] := by rw [HDQ3.out]; rfl
  have HR5 := Lib.hid (read_told S3 d 0 D3 v5 HD5.out (by rw [HDQ3.out]; decide) (by rw [HDQ3.out]; rfl))
  have HG5 := Lib.hid (And.intro hr5 hg5)
  clear hl5 hr5 hs5 hg5 hc0 HR4
  go_wp2_with fail
  refine HR5.out.mono ?_
  rintro e v6 ⟨rfl, hl6, hr6, hs6, hg6, hd6⟩
  rw [hd0] at hr6
  have hx6 : v6.rangeAt v4.heap.size 0 (u8s (pad [65, 66])) := fun j v hv => hg6.cell (HG5.out.1 j v hv) (by simp)
  have hcx : (convert 29 9 (.slice (some ⟨v4.heap.size, 0, none⟩) 2 128)).run Try.prog v6 = .ok (.string ⟨#[65, 66]⟩) v6 := run_string v6 v4.heap.size 0 [65, 66] 128 (range_head hx6 2)
  have hcy : (convert 29 9 (.slice (some ⟨v5.heap.size, 0, none⟩) 2 128)).run Try.prog v6 = .ok (.string ⟨#[68, 0]⟩) v6 := run_string v6 v5.heap.size 0 [68, 0] 128 (range_head hr6 2)
  have hwl : D3.wr.length = 3 := by rw [HDQ3.out]; rfl
  have hwr := writes_at S3 d D3 v6 hd6
  rw [hwl] at hwr
  have HWR := Lib.hid hwr
  have HEND : Hid (Off (fun b => n ≤ b) w v6) := ((HO3.out.trans (HO4.out.mono (fun _ _ h => h.elim))).trans (Off.of_grown HG5.out.2 (by simp))).trans (Off.of_grown hg6 (by simp))
  clear hl6 hr6 hs6 hg6 hd6 hx6 hwr hwl HR5 hd0
  go_wp2_with fail
  refine HWR.out.mono ?_
  rintro e v7 ⟨rfl, rfl⟩
  go_wp2_with fail
  go_ret
  exact ⟨rfl, HEND.out.mono (fun k hk h => by have := HN.out; omega)⟩
end Go.Proofs.Ytplnkpbfnpajjaa.Sec
