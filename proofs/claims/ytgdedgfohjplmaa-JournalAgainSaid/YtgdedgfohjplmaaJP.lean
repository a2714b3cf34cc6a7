/- Rows of the journal's calls in memory; the laws' helper large. -/
import Derived.Test.YtgdedgfohjplmaaJO
import Derived.Deep.Strs
namespace Go.Proofs.Ytgdedgfohjplmaa.Jnl
open Go.RowKit Go.Maps Sec

/-- A call, as data. -/
structure CallJ where
  k : UInt8
  b : List UInt8
  z : Int
instance : Inhabited CallJ := ⟨⟨0, [], 0⟩⟩
/-- A call lies from place o of block g on. -/
def CJAt (w0 w : World) (g o : Nat) (c : CallJ) : Prop := w.cell? ⟨g, o, none⟩ = some (.int .u8 (c.k.toNat : Int)) ∧ ∃ A cap, w.cell? ⟨g, o + 1, none⟩ = some (.slice A c.b.length cap) ∧ w.cell? ⟨g, o + 2, none⟩ = some (.int .i64 c.z) ∧ Arg0 w0 w A c.b cap ∧ c.b.length ≤ cap ∧ cap ≤ maxLen
def CJs (w0 w : World) (A : Option Addr) (l : List CallJ) : Prop := l = [] ∨ ∃ g off, A = some ⟨g, off, none⟩ ∧ g < w0.heap.size ∧ ∀ j c, l[j]? = some c → CJAt w0 w g (off + j * 3) c
theorem cell_keep {w0 w : World} (ho : Off (fun b => w0.heap.size ≤ b) w0 w) {g o : Nat} {v : Value} (hg : g < w0.heap.size) (h : w0.cell? ⟨g, o, none⟩ = some v) : w.cell? ⟨g, o, none⟩ = some v :=
  (World.cell?_of_block (a := ⟨g, o, none⟩) (ho.block g hg (by omega))).trans h
theorem CJAt.off {w0 w : World} {g o : Nat} {c : CallJ} (h : CJAt w0 w0 g o c) (hg : g < w0.heap.size) (ho : Off (fun b => w0.heap.size ≤ b) w0 w) : CJAt w0 w g o c := by
  obtain ⟨h1, A, cap, h2, h3, h4, h5⟩ := h
  exact ⟨cell_keep ho hg h1, A, cap, cell_keep ho hg h2, cell_keep ho hg h3, h4.off ho, h5⟩
theorem CJs.off {w0 w : World} {A : Option Addr} {l : List CallJ} (h : CJs w0 w0 A l) (ho : Off (fun b => w0.heap.size ≤ b) w0 w) : CJs w0 w A l := by
  rcases h with h | ⟨g, off, h1, h2, h3⟩
  · exact .inl h
  · exact .inr ⟨g, off, h1, h2, fun j c hj => (h3 j c hj).off h2 ho⟩
theorem CJs.at_ {w0 w : World} {A : Option Addr} {l : List CallJ} {j : Nat} (h : CJs w0 w A l) (hj : j < l.length) : ∃ g off c, A = some ⟨g, off, none⟩ ∧ l[j]? = some c ∧ CJAt w0 w g (off + j * 3) c := by
  rcases h with rfl | ⟨g, off, e, hg, hc⟩
  · simp at hj
  · exact ⟨g, off, l[j], e, List.getElem?_eq_getElem hj, hc j _ (List.getElem?_eq_getElem hj)⟩
/-- How many bytes. -/
def totalJ (l : List CallJ) : Nat := (l.map fun c => c.b.length).sum
theorem totalJ_succ (l : List CallJ) (k : Nat) (c : CallJ) (h : l[k]? = some c) : totalJ (l.take (k + 1)) = totalJ (l.take k) + c.b.length := by
  obtain ⟨hk, e⟩ := List.getElem?_eq_some_iff.1 h
  rw [List.take_succ_eq_append_getElem hk, e]
  simp [totalJ]
theorem totalJ_le (l : List CallJ) (k : Nat) : totalJ (l.take k) ≤ totalJ l := by
  have h : totalJ (l.take k ++ l.drop k) = totalJ (l.take k) + totalJ (l.drop k) := by unfold totalJ; rw [List.map_append, List.sum_append]
  rw [List.take_append_drop] at h
  omega
theorem totalJ_one (l : List CallJ) (k : Nat) (c : CallJ) (h : l[k]? = some c) : c.b.length ≤ totalJ l := by
  have h1 := totalJ_succ l k c h
  have h2 := totalJ_le l (k + 1)
  omega
def bigJ (l : List CallJ) : Bool := decide (60 < l.length ∨ 3000 < totalJ l)
set_option maxRecDepth 100000 in
set_option maxHeartbeats 4000000 in
theorem large_at (w0 : World) (A : Option Addr) (l : List CallJ) (cap : Nat) (w : World) (h : CJs w0 w A l) (_ : l.length ≤ cap) (_ : cap ≤ maxLen) :
    Calls Try.prog 6 #[.slice A l.length cap] w fun e w' => e = .returned (.bool (bigJ l)) ∧ w' = w := by
  obtain ⟨r, hr⟩ : ∃ r, r = bigJ l := ⟨_, rfl⟩
  rw [← hr]
  unfold bigJ at hr
  have HR := Lib.hid hr
  clear hr
  by_cases h60 : 60 < l.length
  · have hd : decide ((60 : Int) < (l.length : Int)) = true := by simp; omega
    have HR2 : Hid (r = true) := HR.out.trans (decide_eq_true (Or.inl h60))
    clear h60
    go_enter Try.func6, Try.ntmps6
    go_wp2
    go_ret
    exact ⟨by rw [HR2.out]; rfl, rfl⟩
  · have hd : decide ((60 : Int) < (l.length : Int)) = false := by simp; omega
    have HH := Lib.hid h
    clear h
    go_enter Try.func6, Try.ntmps6
    go_wp2
    go_loopw [3, 4] (fun n i wr => ∃ k : Nat, k ≤ l.length ∧ i = .int .i64 k ∧ n = .int .i64 (totalJ (l.take k) : Int) ∧ totalJ (l.take k) ≤ 3000 ∧ wr = w) (fun _ i _ => l.length - (intOf i).toNat)
    case atStart => exact ⟨0, Nat.zero_le _, rfl, rfl, by simp [totalJ], rfl⟩
    case round =>
      obtain ⟨k, hk, rfl, rfl, hn, rfl⟩ := hrel
      by_cases hlt : k < l.length
      · have hkd : decide ((k : Int) < (l.length : Int)) = true := by simp; omega
        obtain ⟨g, off, c, rfl, hc, hat⟩ := HH.out.at_ hlt
        obtain ⟨_, Ab, capb, c3, _, _, hb1, hb2⟩ := hat
        have hsucc := totalJ_succ l k c hc
        have k0 : (0 : Int) ≤ (k : Int) := by omega
        have k1 : (k : Int) < (l.length : Int) := by omega
        unfold maxLen at hb2
        have hw1 : wrap64 (3000 - (totalJ (l.take k) : Int)) = 3000 - (totalJ (l.take k) : Int) := by unfold wrap64; omega
        have HB := Lib.hid (And.intro hn (And.intro hb1 hb2))
        by_cases hov : 3000 < totalJ (l.take (k + 1))
        · have hd2 : decide (3000 - (totalJ (l.take k) : Int) < (c.b.length : Int)) = true := by simp; omega
          have hbig : decide (60 < l.length ∨ 3000 < totalJ l) = true := decide_eq_true (Or.inr (by have := totalJ_le l (k + 1); omega))
          have HR2 : Hid (r = true) := HR.out.trans hbig
          clear hbig hsucc hov hn hb1 hb2
          go_wp2
          go_ret
          exact ⟨by rw [HR2.out]; rfl, rfl⟩
        · have hd2 : decide (3000 - (totalJ (l.take k) : Int) < (c.b.length : Int)) = false := by simp; omega
          have hw2 : wrap64 ((totalJ (l.take k) : Int) + (c.b.length : Int)) = (totalJ (l.take (k + 1)) : Int) := by unfold wrap64; omega
          have HOV := Lib.hid hov
          clear hov
          go_wp2
          go_roundw
          case rel => exact ⟨k + 1, by omega, by go_num, by first | exact congrArg _ hw2 | simp [hw2], by have := HOV.out; omega, trivial⟩
          case measure => simp [intOf]; omega
      · have hkd : decide ((k : Int) < (l.length : Int)) = false := by simp; omega
        obtain rfl : k = l.length := by omega
        have HR2 : Hid (r = false) := HR.out.trans (decide_eq_false (by rw [List.take_length] at hn; omega))
        clear hlt hk
        go_wp2
        go_ret
        exact ⟨by rw [HR2.out]; rfl, rfl⟩
end Go.Proofs.Ytgdedgfohjplmaa.Jnl

/- A row of the journal's calls that came in, opened. -/
namespace Go.Proofs.Ytgdedgfohjplmaa.Jnl
open Go.RowKit Go.Maps Sec Go.Deep Go.ChangeShapes Go.WideShapes

theorem cells_call : Try.prog.cellsOf 34 = 3 := by kernel_rfl
theorem cells_int : Try.prog.cellsOf 3 = 1 := by kernel_rfl
theorem cells_bytes : Try.prog.cellsOf 23 = 1 := by kernel_rfl
theorem cells_byte : Try.prog.cellsOf 5 = 1 := by kernel_rfl
theorem bytes_open {H : Type} {enc : TypeId × Value → H} {W : World} {fuel : Nat} {v : Value} {x : DataW H × List MemPlace} (h : DataW.trod enc Try.prog W 0 (fun _ => true) true fuel 23 [v] = some x) :
    ∃ (A : Option Addr) (l : List UInt8) (cap : Nat), v = .slice A l.length cap ∧ Arg0 W W A l cap ∧ l.length ≤ cap ∧ cap ≤ maxLen := by
  have hrow : ∃ a len cap zs, v = .slice a len cap ∧ IsRow8 W a len cap zs := by
    rcases open_ints Try.underlying23 Try.underlying5 cells_byte h with ⟨hcs, _⟩ | ⟨a, l, c, zs, hcs, _, hl, hm, hz, _, hcell, hwz⟩
    · simp at hcs
      exact ⟨none, 0, 0, [], by simpa using hcs, .inl ⟨rfl, rfl, rfl, rfl⟩⟩
    · simp at hcs hz
      exact ⟨some a, l, c, zs, hcs, .inr ⟨a, rfl, hl, hm, hz, hcell, hwz⟩⟩
  obtain ⟨a, len, cap, zs, rfl, hr⟩ := hrow
  obtain ⟨l, rfl, h1, h2, h3⟩ := arg_of_row hr
  exact ⟨a, l, cap, rfl, h3, h1, h2⟩
set_option maxRecDepth 100000 in
theorem call_open {H : Type} {enc : TypeId × Value → H} {W : World} {fuel : Nat} {g o : Nat} {cs : List Value} {x : DataW H × List MemPlace} (hc : W.cells? 0 ⟨g, o, none⟩ 3 = some cs) (h : DataW.trod enc Try.prog W 0 (fun _ => true) true fuel 34 cs = some x) :
    ∃ c : CallJ, CJAt W W g o c := by
  obtain ⟨_, hlen, hcell⟩ := World.cells?_some hc
  obtain ⟨y0, y1, y2, n, _, _, t0, t1, t2⟩ := trod_struct3 Try.underlying34 h
  match cs, hlen with
  | [v0, v1, v2], _ =>
    simp only [cells_byte, cells_int, cells_bytes, List.drop_zero, List.drop_succ_cons, List.take_succ_cons, List.take_zero] at t0 t1 t2
    obtain ⟨z0, e0, _, w0⟩ := DataW.trod_int Try.underlying5 t0
    obtain ⟨z1, e1, _, w1⟩ := DataW.trod_int Try.underlying3 t2
    obtain ⟨A, l, cap, e2, hr, hlc, hm⟩ := bytes_open t1
    simp at e0 e1
    subst e0 e1 e2
    obtain ⟨t, rfl⟩ := u8_of w0
    have c0 := hcell 0 (by omega)
    have c1 := hcell 1 (by omega)
    have c2 := hcell 2 (by omega)
    rw [Addr.add_mid] at c0 c1 c2
    exact ⟨⟨t, l, z1⟩, c0, A, cap, c1, c2, hr, hlc, hm⟩
set_option maxRecDepth 100000 in
theorem calls_open {H : Type} {enc : TypeId × Value → H} {W : World} {fuel : Nat} {a : Option Addr} {len cap : Nat} {x : DataW H × List MemPlace} (h : DataW.trod enc Try.prog W 0 (fun _ => true) true fuel 22 [.slice a len cap] = some x) :
    ∃ l : List CallJ, l.length = len ∧ len ≤ cap ∧ cap ≤ maxLen ∧ CJs W W a l := by
  rcases open_slice Try.underlying22 h with ⟨hcs, _⟩ | ⟨a', l, c, m, n, D, Pl, hcs, _, hl, hm, he, _, hel⟩
  · simp at hcs
    obtain ⟨rfl, rfl, rfl⟩ := hcs
    exact ⟨[], rfl, Nat.le_refl _, by unfold maxLen; omega, .inl rfl⟩
  · simp at hcs he
    obtain ⟨rfl, rfl, rfl⟩ := hcs
    subst he
    by_cases h0 : len = 0
    · subst h0
      exact ⟨[], rfl, hl, hm, .inl rfl⟩
    · obtain ⟨b, off, spot⟩ := a'
      have hspot : spot = none := by
        obtain ⟨cs', hc', _⟩ := hel 0 (by omega)
        obtain ⟨_, hlen', hcell⟩ := World.cells?_some hc'
        rw [cells_call] at hlen' hcell
        have := hcell 0 (by omega)
        match cs', hlen' with
        | v :: _, _ => simpa [Addr.add] using World.cell?_spot this
      subst hspot
      obtain ⟨f, hf⟩ := choose_lt (n := len) (p := fun i (c : CallJ) => CJAt W W b (off + i * 3) c) (fun i hi => by
        obtain ⟨cs', hc', ht⟩ := hel i (by omega)
        rw [cells_call, Addr.add_mid] at hc'
        exact call_open hc' ht)
      refine ⟨(List.range len).map f, by simp, hl, hm, .inr ⟨b, off, rfl, ?_, ?_⟩⟩
      · exact World.block_lt_of_cell? W _ (hf 0 (by omega)).1
      · intro j c hj
        have hjl : j < len := by
          have := (List.getElem?_eq_some_iff.1 hj).1
          simpa using this
        simp [hjl] at hj
        rw [← hj]
        exact hf j hjl
end Go.Proofs.Ytgdedgfohjplmaa.Jnl

/- has, same, put, Open, Cut: as the laws' walks take them. -/
namespace Go.Proofs.Ytgdedgfohjplmaa.Jnl
open Go.RowKit Go.Maps Sec

theorem Recp.small {now : Nat → List UInt8} {base half op first used n last u : Nat} {ls : List (List UInt8)} (h : Recp now base half op first used n last ls u) (hh : half ≤ 8192) : ∀ l ∈ ls, l.length ≤ 1000000 := by
  induction h with
  | nil => intro l hl; cases hl
  | step h h1 h2 r ih =>
    intro l hl
    rcases List.mem_cons.1 hl with rfl | hl
    · have h3 := joined_le _ _ (fun i hi => (h.run i hi).len)
      have h4 := h.room
      omega
    · exact ih l hl
theorem Fit.small {D : Dsk} {J : Jn} {o K : Nat} (h : Fit D J o K) : J.st.length ≤ 1048576 ∧ ∀ l ∈ J.recs, l.length ≤ 1000000 := by
  obtain ⟨M, fs, h1, h2, h3, h4⟩ := h.st
  have h5 := h.size
  exact ⟨by omega, h4.small (by have := h.n16; omega)⟩
theorem has_fit {w0 w : World} {S Sd : Nat → Prop} {d jb : Nat} {D : Dsk} {J : Jn} {o K : Nat} (hb : Both w0 w S Sd d jb D J) (hf : Fit D J o K) (hK : K ≤ 80000) :
    Calls Try.prog 11 #[.pointer (some ⟨jb, 0, none⟩)] w fun e w' => ∃ v, e = .returned v ∧ StrRow w' w.heap.size v (hasV (hasL J)) ∧ Off (fun _ => False) w w' := by
  have h1 := hf.small
  have h2 := hf.first
  exact has_at S d jb J w hb.jnl (by omega) (fun l hl => by have := h1.2 l hl; omega) (by omega) (by omega)
theorem str_off {w w' : World} {T : Nat → Prop} {B : Nat} {v : Value} {xs : List Value} (h : StrRow w B v xs) (ho : Off T w w') (hT : ∀ b, B ≤ b → b < w.heap.size → ¬ T b) : StrRow w' B v xs :=
  Sec.row_off h ho (fun g hg => hT g (World.ownsRow.lt h g hg).1 (World.ownsRow.lt h g hg).2)
theorem put_fit {w0 w : World} {S Sd : Nat → Prop} {d jb : Nat} {D : Dsk} {J : Jn} {o K : Nat} {k : UInt8} {z : Int} {l : List UInt8} {A : Option Addr} {cap : Nat} (hb : Both w0 w S Sd d jb D J) (hf : Fit D J o K) (hK : K ≤ 1000000) (hwr : D.wr.length + 70000 < 1000000) (hl : l.length ≤ 3000) (hcap : l.length ≤ cap) (hcm : cap ≤ maxLen) (hA : Arg0 w0 w A l cap) :
    Calls Try.prog 10 #[.pointer (some ⟨jb, 0, none⟩), .agg #[.int .u8 (k.toNat : Int), .slice A l.length cap, .int .i64 z]] w fun e w' => e = .returned (.tuple #[]) ∧ ∃ S' Sd', Both w0 w' S' Sd' d jb (putR D J (decide (k.toNat % 9 = 4)) (rep l (k.toNat / 9 + 1))).1 (putR D J (decide (k.toNat % 9 = 4)) (rep l (k.toNat / 9 + 1))).2 ∧ (∀ b, S' b → S b ∨ w.heap.size ≤ b) ∧ (∀ b, Sd' b → Sd b ∨ w.heap.size ≤ b) ∧ Off (fun b => S b ∨ Sd b) w w' := by
  refine (put_law Sd S d jb D J K k z l A cap w hb.disk hb.slt hb.jnl hb.apart hf hK hwr hl hcap hcm (hA.imp id (fun ⟨g, off, h1, _, _, h2⟩ => ⟨g, off, h1, h2⟩))).mono ?_
  rintro e w' ⟨rfl, hp⟩
  exact ⟨rfl, hb.put hp⟩
theorem rep_small {k : UInt8} {l : List UInt8} (hl : l.length ≤ 3000) : (rep l (k.toNat / 9 + 1)).length ≤ 1048576 ∧ parts (rep l (k.toNat / 9 + 1)).length ≤ 890 := by
  have h1 : k.toNat < 256 := k.toNat_lt
  have h2 : (k.toNat / 9 + 1) * l.length ≤ 29 * 3000 := Nat.mul_le_mul (by omega) (by omega)
  have h3 := rep_length l (k.toNat / 9 + 1)
  refine ⟨by omega, ?_⟩
  unfold parts
  omega
/-- Open, of a disk of one's own. -/
theorem open_both {w0 w : World} {Sn : Nat → Prop} {d : Nat} {D : Dsk} {J : Jn} {o K : Nat} (h : DiskAt w Sn d D) (hlt : ∀ b, Sn b → b < w.heap.size) (hn : ∀ b, Sn b → w0.heap.size ≤ b) (h0 : Off (fun b => w0.heap.size ≤ b) w0 w) (hf : Fit D J o K) (hK : K ≤ 1000000) (hwr : D.wr.length + 70000 < 1000000) :
    Calls Try.prog 9 #[.pointer (some ⟨d, 0, none⟩)] w fun e w' => ∃ jb Sj Sd', e = .returned (.tuple #[.pointer (some ⟨jb, 0, none⟩), .int .i64 0]) ∧ Both w0 w' Sj Sd' d jb (D.push (J.area * (D.n / 2)) (headB J.gen (J.op + 1) J.first J.size)) { J with op := J.op + 1 } ∧ (∀ b, Sj b → w.heap.size ≤ b) ∧ (∀ b, Sd' b → Sn b ∨ w.heap.size ≤ b) ∧ Off Sn w w' := by
  refine (open_fit Sn d D J o K w h hlt hwr hf hK).mono ?_
  rintro e w' ⟨jb, Sj, Sd', rfl, hj, hd, hs1, hs2, ho⟩
  exact ⟨jb, Sj, Sd', rfl, Both.opened h0 hn hj hd hs1 hs2 ho, fun b hb => (hs1 b hb).1, fun b hb => (hs2 b hb).1, ho⟩
/-- Cut, of a disk with its journal. -/
theorem cut_both {w0 w : World} {S Sd : Nat → Prop} {d jb : Nat} {D : Dsk} {J : Jn} (hb : Both w0 w S Sd d jb D J) (q : Nat) (hwr : D.wr.length < 1000000) :
    Calls Try.prog 19 #[.pointer (some ⟨d, 0, none⟩), .int .i64 (q : Int)] w fun e w' => ∃ c Sc, e = .returned (.pointer (some ⟨c, 0, none⟩)) ∧ DiskAt w' Sc c (D.cut (q : Int)) ∧ (∀ b, Sc b → b < w'.heap.size) ∧ (∀ b, Sc b → w.heap.size ≤ b) ∧ Off (fun _ => False) w w' := by
  refine (cut_at Sd d D (q : Int) w hb.disk hwr).mono ?_
  rintro e w' ⟨c, rfl, hd, ho⟩
  obtain ⟨h1, h2, h3, h4⟩ := cut_new hb.off hd ho
  exact ⟨c, _, rfl, h1, h2, fun b hb => hb.1, ho⟩
end Go.Proofs.Ytgdedgfohjplmaa.Jnl
