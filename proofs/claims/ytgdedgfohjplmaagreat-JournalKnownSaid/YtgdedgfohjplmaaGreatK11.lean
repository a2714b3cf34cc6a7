/- A part of the proof of JournalKnown: KnowB KnowC KWhole KSmall. -/
import Derived.Test.YtgdedgfohjplmaaGreatK09
import Derived.Test.YtgdedgfohjplmaaGreatK10
set_option maxRecDepth 100000
set_option maxHeartbeats 40000000
namespace Go.Proofs.YtgdedgfohjplmaaGreat.Jnl
open Go.RowKit Go.Maps Sec
set_option maxRecDepth 100000
theorem upon_ok {P : Program} {o : Oper} {a : Act} {next : Act → World → Prop} {Q : Exit → Act → World → Prop} {r : Result Next} {v : Value} {w' : World} (h : r = .ok (.value v) w') (hK : next (a.put o.dst v) w') : Oper.upon P o a next Q r := by rw [h]; exact hK
theorem upon_call {P : Program} {o : Oper} {a : Act} {next : Act → World → Prop} {Q : Exit → Act → World → Prop} {r : Result Next} {f : FuncId} {args : Array Value} {w' : World} (h : r = .ok (.enter f args) w') (hK : Calls P f args w' fun e w'' => ∃ v, e = .returned v ∧ next (a.put o.dst v) w'') : Oper.upon P o a next Q r := by
 rw [h]
 refine Calls.mono hK ?_
 rintro e w'' ⟨v, rfl, hn⟩
 exact hn
def hundred : List UInt8 := List.replicate 102 0
def x17 : List UInt8 := headB 9 9 9 0
def x18 : List UInt8 := partB 67 9 0 0 1 []
def x19 : List UInt8 := partB 82 9 9 0 1 [113]
def x20 : List UInt8 := partB 82 8 10 0 1 [114]
theorem x18_is : partB 67 9 0 0 1 (chunk [] 0) = x18 := rfl
theorem x19_is : partB 82 9 9 0 1 (chunk [113] 0) = x19 := rfl
theorem x20_is : partB 82 8 10 0 1 (chunk [114] 0) = x20 := rfl
def row25 : List CallJ := [⟨0, [97], 0⟩, ⟨9, hundred, 0⟩, ⟨5, [], 1⟩, ⟨9, hundred, 0⟩, ⟨0, [], 0⟩, ⟨6, [], 0⟩, ⟨0, [98], 0⟩, ⟨7, [], 0⟩, ⟨4, [115], 0⟩, ⟨0, [99], 0⟩, ⟨5, [], 0⟩, ⟨4, hundred, 0⟩, ⟨6, [], 0⟩, ⟨5, [], 1⟩, ⟨13, hundred, 0⟩, ⟨6, [], 0⟩, ⟨13, hundred, 0⟩, ⟨8, x17, 0⟩, ⟨8, x18, 1⟩, ⟨8, x19, 2⟩, ⟨8, x20, 3⟩, ⟨0, [100], 0⟩, ⟨8, [120], 0⟩, ⟨8, [120], 8⟩, ⟨0, [], 0⟩]
def specs : List Sp := [.raw [97], .byt [97], .call ⟨0, [97], 0⟩, .byt hundred, .call ⟨9, hundred, 0⟩, .call ⟨5, [], 1⟩, .byt hundred, .call ⟨9, hundred, 0⟩, .call ⟨0, [], 0⟩, .call ⟨6, [], 0⟩, .raw [98], .byt [98], .call ⟨0, [98], 0⟩, .call ⟨7, [], 0⟩, .raw [115], .byt [115], .call ⟨4, [115], 0⟩, .raw [99], .byt [99], .call ⟨0, [99], 0⟩, .call ⟨5, [], 0⟩, .byt hundred, .call ⟨4, hundred, 0⟩, .call ⟨6, [], 0⟩, .call ⟨5, [], 1⟩, .byt hundred, .call ⟨13, hundred, 0⟩, .call ⟨6, [], 0⟩, .byt hundred, .call ⟨13, hundred, 0⟩, .str x17, .byt x17, .call ⟨8, x17, 0⟩, .strs x18, .sptr x18, .str x18, .byt x18, .call ⟨8, x18, 1⟩, .strs x19, .sptr x19, .str x19, .byt x19, .call ⟨8, x19, 2⟩, .strs x20, .sptr x20, .str x20, .byt x20, .call ⟨8, x20, 3⟩, .raw [100], .byt [100], .call ⟨0, [100], 0⟩, .raw [120], .byt [120], .call ⟨8, [120], 0⟩, .raw [120], .byt [120], .call ⟨8, [120], 8⟩, .call ⟨0, [], 0⟩, .rows row25, .rows row25]
theorem u8_alloc (w : World) (c : UInt8) (B : Nat) (hB : B ≤ w.heap.size) : Stay B w (w.alloc (.cells #[.int .u8 (c.toNat : Int)] 5)) ∧ Sp.Ok B (w.alloc (.cells #[.int .u8 (c.toNat : Int)] 5)) (.slice (some ⟨w.heap.size, 0, none⟩) 1 1) (.raw [c]) := by
 have hb := (MapKept.heap_alloc w (.cells #[.int .u8 (c.toNat : Int)] 5)).1
 have hs : (w.alloc (.cells #[.int .u8 (c.toNat : Int)] 5)).heap.size = w.heap.size + 1 := World.size_alloc ..
 refine ⟨.of_off (off_grown (World.grownBy_alloc w _ none)), w.heap.size, rfl, hB, by omega, fun j v hj => ?_, ?_, show 1 ≤ maxLen by decide⟩
 ·match j, hj with
  | 0, hj => cases hj; exact cell_blk hb 0
 ·unfold World.shape?
  rw [hb]
  rfl
theorem run_mark (w : World) (l : List UInt8) (B g : Nat) (h : Sp.Ok B w (.slice (some ⟨g, 0, none⟩) l.length l.length) (.raw l)) : (convert 28 28 (.slice (some ⟨g, 0, none⟩) l.length l.length)).run Tryz.prog w = .ok (.slice (some ⟨g, 0, none⟩) l.length l.length) (w.freeze ⟨g, l.length, none⟩ 1) := by
 obtain ⟨g', e, h1, h2, h3, h4, h5⟩ := h
 injection e with e1 _ _
 injection e1 with e1
 injection e1 with e1 _ _
 subst e1
 simp [convert, run_underlying Tryz.underlying28, run_underlying Tryz.underlying5, markStringish, h4]
theorem strs_of {w : World} {B C : Nat} {v : Value} {c : UInt8} {s k : Nat} {l : List UInt8} (h : StrRow w C v (secV c s k l (parts l.length))) (hp : parts l.length = 1) : Sp.Ok B w v (.strs (partB c s k 0 1 (chunk l 0))) := by
 rw [hp] at h
 obtain ⟨h1, h2 | ⟨g, cap, cur, h2, h3, h4, h5, h6, h7, h8⟩⟩ := h
 ·exact absurd h2.2 (by simp [secV, secL])
 ·refine ⟨g, 0, cap, h2, ?_⟩
  have e : cur.toList[0]? = some (strV (partB c s k 0 (parts l.length) (chunk l 0))) := by
   have h9 := congrArg (fun x => x[0]?) h8
   simpa [secV, secL, List.getElem?_take] using h9
  rw [hp] at e
  refine (cell_blk h4 0).trans ?_
  simpa using e
theorem byt_new (w : World) (l : List UInt8) (B : Nat) (hl : l.length < 100000) : ∃ W2 v, (convert 9 28 (strV l)).run Tryz.prog w = .ok v W2 ∧ Stay B w W2 ∧ Sp.Ok B W2 v (.byt l) := by
 have h := run_bytes_of_string (P := Tryz.prog) w 9 28 5 (bs l) Tryz.underlying9 Tryz.underlying28 Tryz.underlying5
 rw [bs_size] at h
 obtain ⟨W2, cap, e, hr, hb, hg, hs⟩ := run_bytes_new w l
 have hw : (convert 9 28 (strV l)).run Tryz.prog w = _ := h
 rw [e] at hw
 injection hw with hv hW
 injection hv with _ _ hc
 refine ⟨W2, _, e, .of_off (off_grown hg), some ⟨w.heap.size, 0, none⟩, cap, rfl, .inr ⟨w.heap.size, 0, rfl, by omega, by omega, hr⟩, ?_, ?_⟩
 ·rw [hc]; exact grownCap_ge w _ 0 _
 ·rw [hc]; exact grownCap_le_maxLen w _ 0 _ (by unfold maxLen; omega)
section
variable {w0 : World} {a0 : Act} {Q : Exit → Act → World → Prop} {listed : Array Bool} {a : Act} {w : World} {K : Act → World → Prop} {ty : TypeId} {ps : String} {af : Array Edge} {gd : Option (Nat × Bool)} {i j : Nat}
def KI (w0 : World) (a0 : Act) (listed : Array Bool) (K : Act → World → Prop) (i : Nat) : Prop := ∀ a' w', RI w0 a0 specs (listed.setIfInBounds i true) a' w' → K a' w'
theorem fin (hI : RI w0 a0 specs listed a w) (h0 : a0.tmps.size = 234) (hK : KI w0 a0 listed K i) {s : Sp} {w' : World} {v : Value} (hs : specs[i]? = some s) (hi : i < 60) (ho : Stay w0.heap.size w w') (hv : s.Ok w0.heap.size w' v) : K (a.put (some (dst15 i)) v) w' := hK _ _ (hI.put rfl h0 i hi s hs ho hv)
theorem inp (hI : RI w0 a0 specs listed a w) (ha : ∀ e, e ∈ af.toList → Region.binds .any e = true → listed.getD e.on false = true) (he : af.toList.any (fun e => e.on == j && Region.binds .any e) = true) {s : Sp} (hs : specs[j]? = some s) : s.Ok w0.heap.size w (a.tmps.getD (dst15 j) undef) := by
 obtain ⟨e, h1, h2⟩ := List.any_eq_true.1 he
 rw [Bool.and_eq_true, beq_iff_eq] at h2
 exact hI.got j (by rw [← h2.1]; exact ha e h1 h2.2) s hs
theorem st_raw (hI : RI w0 a0 specs listed a w) (h0 : a0.tmps.size = 234) (hK : KI w0 a0 listed K i) (c : UInt8) (hs : specs[i]? = some (.raw [c])) (hi : i < 60) : Oper.wp Tryz.prog ⟨some (dst15 i), .buildSlice 28 1 #[(0, .const (.int .u8 (c.toNat : Int)))], ty, ps, af, gd⟩ a w K Q := by
 obtain ⟨ho, hk⟩ := u8_alloc w c w0.heap.size hI.off.off.size
 exact upon_ok (v := .slice (some ⟨w.heap.size, 0, none⟩) 1 1) (w' := w.alloc (.cells #[.int .u8 (c.toNat : Int)] 5)) (by kernel_rfl) (fin hI h0 hK hs hi ho hk)
theorem st_mark (hI : RI w0 a0 specs listed a w) (h0 : a0.tmps.size = 234) (hK : KI w0 a0 listed K i) (ha : ∀ e, e ∈ af.toList → Region.binds .any e = true → listed.getD e.on false = true) (j : Nat) (l : List UInt8) (he : af.toList.any (fun e => e.on == j && Region.binds .any e) = true) (hj : specs[j]? = some (.raw l)) (hs : specs[i]? = some (.byt l)) (hi : i < 60) : Oper.wp Tryz.prog ⟨some (dst15 i), .convert 28 28 (.tmp (dst15 j)), ty, ps, af, gd⟩ a w K Q := by
 obtain ⟨g, e, hk⟩ := inp hI ha he hj
 have hr := run_mark w l _ g ⟨g, rfl, hk⟩
 obtain ⟨q1, q2, q3, q4, q5⟩ := hk
 have hf := stay_freeze (w := w) g l.length q1
 simp only [Oper.wp, go_sem]
 rw [e]
 exact upon_ok (v := .slice (some ⟨g, 0, none⟩) l.length l.length) (w' := w.freeze ⟨g, l.length, none⟩ 1) (by rw [Sem.run_bind, hr]; rfl) (fin hI h0 hK hs hi hf ⟨_, _, rfl, .inr ⟨g, 0, rfl, Nat.lt_of_lt_of_le q2 hf.off.size, Nat.lt_of_lt_of_le q2 hf.off.size, fun j v hj => hf.cell _ _ (q3 j v hj)⟩, Nat.le_refl _, q5⟩)
theorem st_move (hI : RI w0 a0 specs listed a w) (h0 : a0.tmps.size = 234) (hK : KI w0 a0 listed K i) (h16 : Sp.Ok w0.heap.size w0 (a0.tmps.getD 16 undef) (.byt hundred)) (hs : specs[i]? = some (.byt hundred)) (hi : i < 60) : Oper.wp Tryz.prog ⟨some (dst15 i), .move (.tmp 16), ty, ps, af, gd⟩ a w K Q := by
 simp only [Oper.wp, go_sem]
 rw [hI.old 16 (by decide) (by decide)]
 exact upon_ok (w' := w) rfl (fin hI h0 hK hs hi (Stay.refl _ _) (h16.stay hI.off))
theorem st_call (hI : RI w0 a0 specs listed a w) (h0 : a0.tmps.size = 234) (hK : KI w0 a0 listed K i) (ha : ∀ e, e ∈ af.toList → Region.binds .any e = true → listed.getD e.on false = true) (j : Nat) (k : UInt8) (l : List UInt8) (z : Int) (he : af.toList.any (fun e => e.on == j && Region.binds .any e) = true) (hj : specs[j]? = some (.byt l)) (hs : specs[i]? = some (.call ⟨k, l, z⟩)) (hi : i < 60) : Oper.wp Tryz.prog ⟨some (dst15 i), .build 37 #[(0, .const (.int .u8 (k.toNat : Int))), (1, .tmp (dst15 j)), (2, .const (.int .i64 z))], ty, ps, af, gd⟩ a w K Q := by
 obtain ⟨A, cap, e, hk⟩ := inp hI ha he hj
 simp only [Oper.wp, go_sem]
 simp only [List.map_toArray, List.map_cons, List.map_nil, e]
 exact upon_ok (v := .agg #[.int .u8 (k.toNat : Int), .slice A l.length cap, .int .i64 z]) (w' := w) (by kernel_rfl) (fin hI h0 hK hs hi (Stay.refl _ _) ⟨A, cap, rfl, hk⟩)
theorem st_nil (hI : RI w0 a0 specs listed a w) (h0 : a0.tmps.size = 234) (hK : KI w0 a0 listed K i) (k : UInt8) (z : Int) (hs : specs[i]? = some (.call ⟨k, [], z⟩)) (hi : i < 60) : Oper.wp Tryz.prog ⟨some (dst15 i), .build 37 #[(0, .const (.int .u8 (k.toNat : Int))), (1, .const (.slice none 0 0)), (2, .const (.int .i64 z))], ty, ps, af, gd⟩ a w K Q :=
 upon_ok (v := .agg #[.int .u8 (k.toNat : Int), .slice none 0 0, .int .i64 z]) (w' := w) (by kernel_rfl) (fin hI h0 hK hs hi (Stay.refl _ _) ⟨none, 0, rfl, .inl ⟨rfl, rfl⟩, Nat.le_refl _, by decide⟩)
theorem st_sect (hI : RI w0 a0 specs listed a w) (h0 : a0.tmps.size = 234) (hK : KI w0 a0 listed K i) (c : UInt8) (s k : Nat) (l x : List UInt8) (b1 : s < 9223372036854775808) (b2 : k < 9223372036854775808) (b3 : l.length < 6000000) (hp : parts l.length = 1) (hx : partB c s k 0 1 (chunk l 0) = x) (hs : specs[i]? = some (.strs x)) (hi : i < 60) : Oper.wp Tryz.prog ⟨some (dst15 i), .call { callee := .value (.func 16), args := #[.const (.int .u8 (c.toNat : Int)), .const (.int .i64 (s : Int)), .const (.int .i64 (k : Int)), .const (strV l)], argTypes := #[5, 2, 2, 9] }, ty, ps, af, gd⟩ a w K Q := by
 refine upon_call (f := 16) (args := #[.int .u8 (c.toNat : Int), .int .i64 (s : Int), .int .i64 (k : Int), strV l]) (w' := w) (by kernel_rfl) ?_
 refine (rsectors_at c s k l b1 b2 b3 w).mono ?_
 rintro e w2 ⟨v, rfl, hr, hb⟩
 have q := strs_of (B := w0.heap.size) hr hp
 rw [hx] at q
 exact ⟨_, rfl, fin hI h0 hK hs hi (.of_off (off_below hb)) q⟩
theorem st_idx (hI : RI w0 a0 specs listed a w) (h0 : a0.tmps.size = 234) (hK : KI w0 a0 listed K i) (ha : ∀ e, e ∈ af.toList → Region.binds .any e = true → listed.getD e.on false = true) (j : Nat) (x : List UInt8) (he : af.toList.any (fun e => e.on == j && Region.binds .any e) = true) (hj : specs[j]? = some (.strs x)) (hs : specs[i]? = some (.sptr x)) (hi : i < 60) : Oper.wp Tryz.prog ⟨some (dst15 i), .indexAddr 39 (.tmp (dst15 j)) (.const (.int .i64 0)), ty, ps, af, gd⟩ a w K Q := by
 obtain ⟨g, off, cap, e, hk⟩ := inp hI ha he hj
 simp only [Oper.wp, go_sem]
 rw [e]
 exact upon_ok (v := .pointer (some ⟨g, off, none⟩)) (w' := w) (by kernel_rfl) (fin hI h0 hK hs hi (Stay.refl _ _) ⟨g, off, rfl, hk⟩)
theorem st_load (hI : RI w0 a0 specs listed a w) (h0 : a0.tmps.size = 234) (hK : KI w0 a0 listed K i) (ha : ∀ e, e ∈ af.toList → Region.binds .any e = true → listed.getD e.on false = true) (j : Nat) (x : List UInt8) (he : af.toList.any (fun e => e.on == j && Region.binds .any e) = true) (hj : specs[j]? = some (.sptr x)) (hs : specs[i]? = some (.str x)) (hi : i < 60) : Oper.wp Tryz.prog ⟨some (dst15 i), .load 9 (.tmp (dst15 j)), ty, ps, af, gd⟩ a w K Q := by
 obtain ⟨g, off, e, hk⟩ := inp hI ha he hj
 simp only [Oper.wp, go_sem]
 rw [e]
 exact upon_ok (v := strV x) (w' := w) (by simp [go_sem, hk]) (fin hI h0 hK hs hi (Stay.refl _ _) rfl)
theorem st_conv (hI : RI w0 a0 specs listed a w) (h0 : a0.tmps.size = 234) (hK : KI w0 a0 listed K i) (ha : ∀ e, e ∈ af.toList → Region.binds .any e = true → listed.getD e.on false = true) (j : Nat) (x : List UInt8) (hx : x.length < 100000) (he : af.toList.any (fun e => e.on == j && Region.binds .any e) = true) (hj : specs[j]? = some (.str x)) (hs : specs[i]? = some (.byt x)) (hi : i < 60) : Oper.wp Tryz.prog ⟨some (dst15 i), .convert 9 28 (.tmp (dst15 j)), ty, ps, af, gd⟩ a w K Q := by
 have e := inp hI ha he hj
 change a.tmps.getD (dst15 j) undef = strV x at e
 obtain ⟨W2, v, hc, ho, hk⟩ := byt_new w x w0.heap.size hx
 simp only [Oper.wp, go_sem]
 rw [e]
 exact upon_ok (v := v) (w' := W2) (by rw [Sem.run_bind, hc]; rfl) (fin hI h0 hK hs hi ho hk)
theorem steps15 (h0 : a0.tmps.size = 234) (h16 : Sp.Ok w0.heap.size w0 (a0.tmps.getD 16 undef) (.byt hundred)) : Steps Tryz.prog Q (RI w0 a0 specs) 0 (((Tryz.f3.body).bind (findR 15)).getD #[]).toList := by
 refine ⟨?_, ?_⟩
 ·intro listed a w K hI ha hK
  exact st_raw hI h0 hK 97 rfl (by decide)
 refine ⟨?_, ?_⟩
 ·intro listed a w K hI ha hK
  exact st_mark hI h0 hK ha 0 [97] rfl rfl rfl (by decide)
 refine ⟨?_, ?_⟩
 ·intro listed a w K hI ha hK
  exact st_call hI h0 hK ha 1 0 [97] 0 rfl rfl rfl (by decide)
 refine ⟨?_, ?_⟩
 ·intro listed a w K hI ha hK
  exact st_move hI h0 hK h16 rfl (by decide)
 refine ⟨?_, ?_⟩
 ·intro listed a w K hI ha hK
  exact st_call hI h0 hK ha 3 9 hundred 0 rfl rfl rfl (by decide)
 refine ⟨?_, ?_⟩
 ·intro listed a w K hI ha hK
  exact st_nil hI h0 hK 5 1 rfl (by decide)
 refine ⟨?_, ?_⟩
 ·intro listed a w K hI ha hK
  exact st_move hI h0 hK h16 rfl (by decide)
 refine ⟨?_, ?_⟩
 ·intro listed a w K hI ha hK
  exact st_call hI h0 hK ha 6 9 hundred 0 rfl rfl rfl (by decide)
 refine ⟨?_, ?_⟩
 ·intro listed a w K hI ha hK
  exact st_nil hI h0 hK 0 0 rfl (by decide)
 refine ⟨?_, ?_⟩
 ·intro listed a w K hI ha hK
  exact st_nil hI h0 hK 6 0 rfl (by decide)
 refine ⟨?_, ?_⟩
 ·intro listed a w K hI ha hK
  exact st_raw hI h0 hK 98 rfl (by decide)
 refine ⟨?_, ?_⟩
 ·intro listed a w K hI ha hK
  exact st_mark hI h0 hK ha 10 [98] rfl rfl rfl (by decide)
 refine ⟨?_, ?_⟩
 ·intro listed a w K hI ha hK
  exact st_call hI h0 hK ha 11 0 [98] 0 rfl rfl rfl (by decide)
 refine ⟨?_, ?_⟩
 ·intro listed a w K hI ha hK
  exact st_nil hI h0 hK 7 0 rfl (by decide)
 refine ⟨?_, ?_⟩
 ·intro listed a w K hI ha hK
  exact st_raw hI h0 hK 115 rfl (by decide)
 refine ⟨?_, ?_⟩
 ·intro listed a w K hI ha hK
  exact st_mark hI h0 hK ha 14 [115] rfl rfl rfl (by decide)
 refine ⟨?_, ?_⟩
 ·intro listed a w K hI ha hK
  exact st_call hI h0 hK ha 15 4 [115] 0 rfl rfl rfl (by decide)
 refine ⟨?_, ?_⟩
 ·intro listed a w K hI ha hK
  exact st_raw hI h0 hK 99 rfl (by decide)
 refine ⟨?_, ?_⟩
 ·intro listed a w K hI ha hK
  exact st_mark hI h0 hK ha 17 [99] rfl rfl rfl (by decide)
 refine ⟨?_, ?_⟩
 ·intro listed a w K hI ha hK
  exact st_call hI h0 hK ha 18 0 [99] 0 rfl rfl rfl (by decide)
 refine ⟨?_, ?_⟩
 ·intro listed a w K hI ha hK
  exact st_nil hI h0 hK 5 0 rfl (by decide)
 refine ⟨?_, ?_⟩
 ·intro listed a w K hI ha hK
  exact st_move hI h0 hK h16 rfl (by decide)
 refine ⟨?_, ?_⟩
 ·intro listed a w K hI ha hK
  exact st_call hI h0 hK ha 21 4 hundred 0 rfl rfl rfl (by decide)
 refine ⟨?_, ?_⟩
 ·intro listed a w K hI ha hK
  exact st_nil hI h0 hK 6 0 rfl (by decide)
 refine ⟨?_, ?_⟩
 ·intro listed a w K hI ha hK
  exact st_nil hI h0 hK 5 1 rfl (by decide)
 refine ⟨?_, ?_⟩
 ·intro listed a w K hI ha hK
  exact st_move hI h0 hK h16 rfl (by decide)
 refine ⟨?_, ?_⟩
 ·intro listed a w K hI ha hK
  exact st_call hI h0 hK ha 25 13 hundred 0 rfl rfl rfl (by decide)
 refine ⟨?_, ?_⟩
 ·intro listed a w K hI ha hK
  exact st_nil hI h0 hK 6 0 rfl (by decide)
 refine ⟨?_, ?_⟩
 ·intro listed a w K hI ha hK
  exact st_move hI h0 hK h16 rfl (by decide)
 refine ⟨?_, ?_⟩
 ·intro listed a w K hI ha hK
  exact st_call hI h0 hK ha 28 13 hundred 0 rfl rfl rfl (by decide)
 refine ⟨?_, ?_⟩
 ·intro listed a w K hI ha hK
  refine upon_call (f := 15) (args := #[.int .i64 ((9 : Nat) : Int), .int .i64 ((9 : Nat) : Int), .int .i64 ((9 : Nat) : Int), .int .i64 ((0 : Nat) : Int)]) (w' := w) (by kernel_rfl) ?_
  refine (rhead_at 9 9 9 0 (by decide) (by decide) (by decide) (by decide) w).mono ?_
  rintro e w2 ⟨rfl, hb⟩
  refine ⟨_, rfl, ?_⟩
  exact hK _ _ (hI.put rfl h0 30 (by decide) _ rfl (.of_off (off_below hb)) rfl)
 refine ⟨?_, ?_⟩
 ·intro listed a w K hI ha hK
  exact st_conv hI h0 hK ha 30 x17 (by decide) rfl rfl rfl (by decide)
 refine ⟨?_, ?_⟩
 ·intro listed a w K hI ha hK
  exact st_call hI h0 hK ha 31 8 x17 0 rfl rfl rfl (by decide)
 refine ⟨?_, ?_⟩
 ·intro listed a w K hI ha hK
  exact st_sect hI h0 hK 67 9 0 [] x18 (by decide) (by decide) (by decide) (by decide) x18_is rfl (by decide)
 refine ⟨?_, ?_⟩
 ·intro listed a w K hI ha hK
  exact st_idx hI h0 hK ha 33 x18 rfl rfl rfl (by decide)
 refine ⟨?_, ?_⟩
 ·intro listed a w K hI ha hK
  exact st_load hI h0 hK ha 34 x18 rfl rfl rfl (by decide)
 refine ⟨?_, ?_⟩
 ·intro listed a w K hI ha hK
  exact st_conv hI h0 hK ha 35 x18 (by decide) rfl rfl rfl (by decide)
 refine ⟨?_, ?_⟩
 ·intro listed a w K hI ha hK
  exact st_call hI h0 hK ha 36 8 x18 1 rfl rfl rfl (by decide)
 refine ⟨?_, ?_⟩
 ·intro listed a w K hI ha hK
  exact st_sect hI h0 hK 82 9 9 [113] x19 (by decide) (by decide) (by decide) (by decide) x19_is rfl (by decide)
 refine ⟨?_, ?_⟩
 ·intro listed a w K hI ha hK
  exact st_idx hI h0 hK ha 38 x19 rfl rfl rfl (by decide)
 refine ⟨?_, ?_⟩
 ·intro listed a w K hI ha hK
  exact st_load hI h0 hK ha 39 x19 rfl rfl rfl (by decide)
 refine ⟨?_, ?_⟩
 ·intro listed a w K hI ha hK
  exact st_conv hI h0 hK ha 40 x19 (by decide) rfl rfl rfl (by decide)
 refine ⟨?_, ?_⟩
 ·intro listed a w K hI ha hK
  exact st_call hI h0 hK ha 41 8 x19 2 rfl rfl rfl (by decide)
 refine ⟨?_, ?_⟩
 ·intro listed a w K hI ha hK
  exact st_sect hI h0 hK 82 8 10 [114] x20 (by decide) (by decide) (by decide) (by decide) x20_is rfl (by decide)
 refine ⟨?_, ?_⟩
 ·intro listed a w K hI ha hK
  exact st_idx hI h0 hK ha 43 x20 rfl rfl rfl (by decide)
 refine ⟨?_, ?_⟩
 ·intro listed a w K hI ha hK
  exact st_load hI h0 hK ha 44 x20 rfl rfl rfl (by decide)
 refine ⟨?_, ?_⟩
 ·intro listed a w K hI ha hK
  exact st_conv hI h0 hK ha 45 x20 (by decide) rfl rfl rfl (by decide)
 refine ⟨?_, ?_⟩
 ·intro listed a w K hI ha hK
  exact st_call hI h0 hK ha 46 8 x20 3 rfl rfl rfl (by decide)
 refine ⟨?_, ?_⟩
 ·intro listed a w K hI ha hK
  exact st_raw hI h0 hK 100 rfl (by decide)
 refine ⟨?_, ?_⟩
 ·intro listed a w K hI ha hK
  exact st_mark hI h0 hK ha 48 [100] rfl rfl rfl (by decide)
 refine ⟨?_, ?_⟩
 ·intro listed a w K hI ha hK
  exact st_call hI h0 hK ha 49 0 [100] 0 rfl rfl rfl (by decide)
 refine ⟨?_, ?_⟩
 ·intro listed a w K hI ha hK
  exact st_raw hI h0 hK 120 rfl (by decide)
 refine ⟨?_, ?_⟩
 ·intro listed a w K hI ha hK
  exact st_mark hI h0 hK ha 51 [120] rfl rfl rfl (by decide)
 refine ⟨?_, ?_⟩
 ·intro listed a w K hI ha hK
  exact st_call hI h0 hK ha 52 8 [120] 0 rfl rfl rfl (by decide)
 refine ⟨?_, ?_⟩
 ·intro listed a w K hI ha hK
  exact st_raw hI h0 hK 120 rfl (by decide)
 refine ⟨?_, ?_⟩
 ·intro listed a w K hI ha hK
  exact st_mark hI h0 hK ha 54 [120] rfl rfl rfl (by decide)
 refine ⟨?_, ?_⟩
 ·intro listed a w K hI ha hK
  exact st_call hI h0 hK ha 55 8 [120] 8 rfl rfl rfl (by decide)
 refine ⟨?_, ?_⟩
 ·intro listed a w K hI ha hK
  exact st_nil hI h0 hK 0 0 rfl (by decide)
 refine ⟨?_, ?_⟩
 ·intro listed a w K hI ha hK
  have g0 := hI.got 2 (ha ⟨2, .data⟩ (by simp) rfl) _ rfl
  obtain ⟨A0, c0, e0, hk0⟩ := g0
  change a.tmps.getD 137 undef = _ at e0
  have g1 := hI.got 4 (ha ⟨4, .data⟩ (by simp) rfl) _ rfl
  obtain ⟨A1, c1, e1, hk1⟩ := g1
  change a.tmps.getD 139 undef = _ at e1
  have g2 := hI.got 5 (ha ⟨5, .data⟩ (by simp) rfl) _ rfl
  obtain ⟨A2, c2, e2, hk2⟩ := g2
  change a.tmps.getD 140 undef = _ at e2
  have g3 := hI.got 7 (ha ⟨7, .data⟩ (by simp) rfl) _ rfl
  obtain ⟨A3, c3, e3, hk3⟩ := g3
  change a.tmps.getD 142 undef = _ at e3
  have g4 := hI.got 8 (ha ⟨8, .data⟩ (by simp) rfl) _ rfl
  obtain ⟨A4, c4, e4, hk4⟩ := g4
  change a.tmps.getD 143 undef = _ at e4
  have g5 := hI.got 9 (ha ⟨9, .data⟩ (by simp) rfl) _ rfl
  obtain ⟨A5, c5, e5, hk5⟩ := g5
  change a.tmps.getD 144 undef = _ at e5
  have g6 := hI.got 12 (ha ⟨12, .data⟩ (by simp) rfl) _ rfl
  obtain ⟨A6, c6, e6, hk6⟩ := g6
  change a.tmps.getD 147 undef = _ at e6
  have g7 := hI.got 13 (ha ⟨13, .data⟩ (by simp) rfl) _ rfl
  obtain ⟨A7, c7, e7, hk7⟩ := g7
  change a.tmps.getD 148 undef = _ at e7
  have g8 := hI.got 16 (ha ⟨16, .data⟩ (by simp) rfl) _ rfl
  obtain ⟨A8, c8, e8, hk8⟩ := g8
  change a.tmps.getD 151 undef = _ at e8
  have g9 := hI.got 19 (ha ⟨19, .data⟩ (by simp) rfl) _ rfl
  obtain ⟨A9, c9, e9, hk9⟩ := g9
  change a.tmps.getD 154 undef = _ at e9
  have g10 := hI.got 20 (ha ⟨20, .data⟩ (by simp) rfl) _ rfl
  obtain ⟨A10, c10, e10, hk10⟩ := g10
  change a.tmps.getD 155 undef = _ at e10
  have g11 := hI.got 22 (ha ⟨22, .data⟩ (by simp) rfl) _ rfl
  obtain ⟨A11, c11, e11, hk11⟩ := g11
  change a.tmps.getD 157 undef = _ at e11
  have g12 := hI.got 23 (ha ⟨23, .data⟩ (by simp) rfl) _ rfl
  obtain ⟨A12, c12, e12, hk12⟩ := g12
  change a.tmps.getD 158 undef = _ at e12
  have g13 := hI.got 24 (ha ⟨24, .data⟩ (by simp) rfl) _ rfl
  obtain ⟨A13, c13, e13, hk13⟩ := g13
  change a.tmps.getD 159 undef = _ at e13
  have g14 := hI.got 26 (ha ⟨26, .data⟩ (by simp) rfl) _ rfl
  obtain ⟨A14, c14, e14, hk14⟩ := g14
  change a.tmps.getD 161 undef = _ at e14
  have g15 := hI.got 27 (ha ⟨27, .data⟩ (by simp) rfl) _ rfl
  obtain ⟨A15, c15, e15, hk15⟩ := g15
  change a.tmps.getD 162 undef = _ at e15
  have g16 := hI.got 29 (ha ⟨29, .data⟩ (by simp) rfl) _ rfl
  obtain ⟨A16, c16, e16, hk16⟩ := g16
  change a.tmps.getD 164 undef = _ at e16
  have g17 := hI.got 32 (ha ⟨32, .data⟩ (by simp) rfl) _ rfl
  obtain ⟨A17, c17, e17, hk17⟩ := g17
  change a.tmps.getD 167 undef = _ at e17
  have g18 := hI.got 37 (ha ⟨37, .data⟩ (by simp) rfl) _ rfl
  obtain ⟨A18, c18, e18, hk18⟩ := g18
  change a.tmps.getD 172 undef = _ at e18
  have g19 := hI.got 42 (ha ⟨42, .data⟩ (by simp) rfl) _ rfl
  obtain ⟨A19, c19, e19, hk19⟩ := g19
  change a.tmps.getD 177 undef = _ at e19
  have g20 := hI.got 47 (ha ⟨47, .data⟩ (by simp) rfl) _ rfl
  obtain ⟨A20, c20, e20, hk20⟩ := g20
  change a.tmps.getD 182 undef = _ at e20
  have g21 := hI.got 50 (ha ⟨50, .data⟩ (by simp) rfl) _ rfl
  obtain ⟨A21, c21, e21, hk21⟩ := g21
  change a.tmps.getD 185 undef = _ at e21
  have g22 := hI.got 53 (ha ⟨53, .data⟩ (by simp) rfl) _ rfl
  obtain ⟨A22, c22, e22, hk22⟩ := g22
  change a.tmps.getD 188 undef = _ at e22
  have g23 := hI.got 56 (ha ⟨56, .data⟩ (by simp) rfl) _ rfl
  obtain ⟨A23, c23, e23, hk23⟩ := g23
  change a.tmps.getD 191 undef = _ at e23
  have g24 := hI.got 57 (ha ⟨57, .data⟩ (by simp) rfl) _ rfl
  obtain ⟨A24, c24, e24, hk24⟩ := g24
  change a.tmps.getD 192 undef = _ at e24
  simp only [Oper.wp, go_sem, List.map_toArray, List.map_cons, List.map_nil, e0, e1, e2, e3, e4, e5, e6, e7, e8, e9, e10, e11, e12, e13, e14, e15, e16, e17, e18, e19, e20, e21, e22, e23, e24]
  have hb := (MapKept.heap_alloc w (.cells #[.int .u8 0, .slice A0 ([97] : List UInt8).length c0, .int .i64 0, .int .u8 9, .slice A1 (hundred : List UInt8).length c1, .int .i64 0, .int .u8 5, .slice A2 ([] : List UInt8).length c2, .int .i64 1, .int .u8 9, .slice A3 (hundred : List UInt8).length c3, .int .i64 0, .int .u8 0, .slice A4 ([] : List UInt8).length c4, .int .i64 0, .int .u8 6, .slice A5 ([] : List UInt8).length c5, .int .i64 0, .int .u8 0, .slice A6 ([98] : List UInt8).length c6, .int .i64 0, .int .u8 7, .slice A7 ([] : List UInt8).length c7, .int .i64 0, .int .u8 4, .slice A8 ([115] : List UInt8).length c8, .int .i64 0, .int .u8 0, .slice A9 ([99] : List UInt8).length c9, .int .i64 0, .int .u8 5, .slice A10 ([] : List UInt8).length c10, .int .i64 0, .int .u8 4, .slice A11 (hundred : List UInt8).length c11, .int .i64 0, .int .u8 6, .slice A12 ([] : List UInt8).length c12, .int .i64 0, .int .u8 5, .slice A13 ([] : List UInt8).length c13, .int .i64 1, .int .u8 13, .slice A14 (hundred : List UInt8).length c14, .int .i64 0, .int .u8 6, .slice A15 ([] : List UInt8).length c15, .int .i64 0, .int .u8 13, .slice A16 (hundred : List UInt8).length c16, .int .i64 0, .int .u8 8, .slice A17 (x17 : List UInt8).length c17, .int .i64 0, .int .u8 8, .slice A18 (x18 : List UInt8).length c18, .int .i64 1, .int .u8 8, .slice A19 (x19 : List UInt8).length c19, .int .i64 2, .int .u8 8, .slice A20 (x20 : List UInt8).length c20, .int .i64 3, .int .u8 0, .slice A21 ([100] : List UInt8).length c21, .int .i64 0, .int .u8 8, .slice A22 ([120] : List UInt8).length c22, .int .i64 0, .int .u8 8, .slice A23 ([120] : List UInt8).length c23, .int .i64 8, .int .u8 0, .slice A24 ([] : List UInt8).length c24, .int .i64 0] 37)).1
  have hs : (w.alloc (.cells #[.int .u8 0, .slice A0 ([97] : List UInt8).length c0, .int .i64 0, .int .u8 9, .slice A1 (hundred : List UInt8).length c1, .int .i64 0, .int .u8 5, .slice A2 ([] : List UInt8).length c2, .int .i64 1, .int .u8 9, .slice A3 (hundred : List UInt8).length c3, .int .i64 0, .int .u8 0, .slice A4 ([] : List UInt8).length c4, .int .i64 0, .int .u8 6, .slice A5 ([] : List UInt8).length c5, .int .i64 0, .int .u8 0, .slice A6 ([98] : List UInt8).length c6, .int .i64 0, .int .u8 7, .slice A7 ([] : List UInt8).length c7, .int .i64 0, .int .u8 4, .slice A8 ([115] : List UInt8).length c8, .int .i64 0, .int .u8 0, .slice A9 ([99] : List UInt8).length c9, .int .i64 0, .int .u8 5, .slice A10 ([] : List UInt8).length c10, .int .i64 0, .int .u8 4, .slice A11 (hundred : List UInt8).length c11, .int .i64 0, .int .u8 6, .slice A12 ([] : List UInt8).length c12, .int .i64 0, .int .u8 5, .slice A13 ([] : List UInt8).length c13, .int .i64 1, .int .u8 13, .slice A14 (hundred : List UInt8).length c14, .int .i64 0, .int .u8 6, .slice A15 ([] : List UInt8).length c15, .int .i64 0, .int .u8 13, .slice A16 (hundred : List UInt8).length c16, .int .i64 0, .int .u8 8, .slice A17 (x17 : List UInt8).length c17, .int .i64 0, .int .u8 8, .slice A18 (x18 : List UInt8).length c18, .int .i64 1, .int .u8 8, .slice A19 (x19 : List UInt8).length c19, .int .i64 2, .int .u8 8, .slice A20 (x20 : List UInt8).length c20, .int .i64 3, .int .u8 0, .slice A21 ([100] : List UInt8).length c21, .int .i64 0, .int .u8 8, .slice A22 ([120] : List UInt8).length c22, .int .i64 0, .int .u8 8, .slice A23 ([120] : List UInt8).length c23, .int .i64 8, .int .u8 0, .slice A24 ([] : List UInt8).length c24, .int .i64 0] 37)).heap.size = w.heap.size + 1 := World.size_alloc ..
  have hof : Stay w0.heap.size w (w.alloc (.cells #[.int .u8 0, .slice A0 ([97] : List UInt8).length c0, .int .i64 0, .int .u8 9, .slice A1 (hundred : List UInt8).length c1, .int .i64 0, .int .u8 5, .slice A2 ([] : List UInt8).length c2, .int .i64 1, .int .u8 9, .slice A3 (hundred : List UInt8).length c3, .int .i64 0, .int .u8 0, .slice A4 ([] : List UInt8).length c4, .int .i64 0, .int .u8 6, .slice A5 ([] : List UInt8).length c5, .int .i64 0, .int .u8 0, .slice A6 ([98] : List UInt8).length c6, .int .i64 0, .int .u8 7, .slice A7 ([] : List UInt8).length c7, .int .i64 0, .int .u8 4, .slice A8 ([115] : List UInt8).length c8, .int .i64 0, .int .u8 0, .slice A9 ([99] : List UInt8).length c9, .int .i64 0, .int .u8 5, .slice A10 ([] : List UInt8).length c10, .int .i64 0, .int .u8 4, .slice A11 (hundred : List UInt8).length c11, .int .i64 0, .int .u8 6, .slice A12 ([] : List UInt8).length c12, .int .i64 0, .int .u8 5, .slice A13 ([] : List UInt8).length c13, .int .i64 1, .int .u8 13, .slice A14 (hundred : List UInt8).length c14, .int .i64 0, .int .u8 6, .slice A15 ([] : List UInt8).length c15, .int .i64 0, .int .u8 13, .slice A16 (hundred : List UInt8).length c16, .int .i64 0, .int .u8 8, .slice A17 (x17 : List UInt8).length c17, .int .i64 0, .int .u8 8, .slice A18 (x18 : List UInt8).length c18, .int .i64 1, .int .u8 8, .slice A19 (x19 : List UInt8).length c19, .int .i64 2, .int .u8 8, .slice A20 (x20 : List UInt8).length c20, .int .i64 3, .int .u8 0, .slice A21 ([100] : List UInt8).length c21, .int .i64 0, .int .u8 8, .slice A22 ([120] : List UInt8).length c22, .int .i64 0, .int .u8 8, .slice A23 ([120] : List UInt8).length c23, .int .i64 8, .int .u8 0, .slice A24 ([] : List UInt8).length c24, .int .i64 0] 37)) := .of_off (off_grown (World.grownBy_alloc w _ none))
  refine upon_ok (v := .slice (some ⟨w.heap.size, 0, none⟩) 25 25) (w' := w.alloc (.cells #[.int .u8 0, .slice A0 ([97] : List UInt8).length c0, .int .i64 0, .int .u8 9, .slice A1 (hundred : List UInt8).length c1, .int .i64 0, .int .u8 5, .slice A2 ([] : List UInt8).length c2, .int .i64 1, .int .u8 9, .slice A3 (hundred : List UInt8).length c3, .int .i64 0, .int .u8 0, .slice A4 ([] : List UInt8).length c4, .int .i64 0, .int .u8 6, .slice A5 ([] : List UInt8).length c5, .int .i64 0, .int .u8 0, .slice A6 ([98] : List UInt8).length c6, .int .i64 0, .int .u8 7, .slice A7 ([] : List UInt8).length c7, .int .i64 0, .int .u8 4, .slice A8 ([115] : List UInt8).length c8, .int .i64 0, .int .u8 0, .slice A9 ([99] : List UInt8).length c9, .int .i64 0, .int .u8 5, .slice A10 ([] : List UInt8).length c10, .int .i64 0, .int .u8 4, .slice A11 (hundred : List UInt8).length c11, .int .i64 0, .int .u8 6, .slice A12 ([] : List UInt8).length c12, .int .i64 0, .int .u8 5, .slice A13 ([] : List UInt8).length c13, .int .i64 1, .int .u8 13, .slice A14 (hundred : List UInt8).length c14, .int .i64 0, .int .u8 6, .slice A15 ([] : List UInt8).length c15, .int .i64 0, .int .u8 13, .slice A16 (hundred : List UInt8).length c16, .int .i64 0, .int .u8 8, .slice A17 (x17 : List UInt8).length c17, .int .i64 0, .int .u8 8, .slice A18 (x18 : List UInt8).length c18, .int .i64 1, .int .u8 8, .slice A19 (x19 : List UInt8).length c19, .int .i64 2, .int .u8 8, .slice A20 (x20 : List UInt8).length c20, .int .i64 3, .int .u8 0, .slice A21 ([100] : List UInt8).length c21, .int .i64 0, .int .u8 8, .slice A22 ([120] : List UInt8).length c22, .int .i64 0, .int .u8 8, .slice A23 ([120] : List UInt8).length c23, .int .i64 8, .int .u8 0, .slice A24 ([] : List UInt8).length c24, .int .i64 0] 37)) (by kernel_rfl) ?_
  refine hK _ _ (hI.put rfl h0 58 (by decide) _ rfl hof ⟨some ⟨w.heap.size, 0, none⟩, 25, rfl, .inr ⟨w.heap.size, 0, rfl, by omega, fun j c hj => ?_⟩, Nat.le_refl _, show 25 ≤ maxLen by decide⟩)
  match j, hj with
  | 0, hj => cases hj; exact ⟨cell_blk hb 0, A0, c0, cell_blk hb 1, cell_blk hb 2, hk0.1.stay hof, hk0.2⟩
  | 1, hj => cases hj; exact ⟨cell_blk hb 3, A1, c1, cell_blk hb 4, cell_blk hb 5, hk1.1.stay hof, hk1.2⟩
  | 2, hj => cases hj; exact ⟨cell_blk hb 6, A2, c2, cell_blk hb 7, cell_blk hb 8, hk2.1.stay hof, hk2.2⟩
  | 3, hj => cases hj; exact ⟨cell_blk hb 9, A3, c3, cell_blk hb 10, cell_blk hb 11, hk3.1.stay hof, hk3.2⟩
  | 4, hj => cases hj; exact ⟨cell_blk hb 12, A4, c4, cell_blk hb 13, cell_blk hb 14, hk4.1.stay hof, hk4.2⟩
  | 5, hj => cases hj; exact ⟨cell_blk hb 15, A5, c5, cell_blk hb 16, cell_blk hb 17, hk5.1.stay hof, hk5.2⟩
  | 6, hj => cases hj; exact ⟨cell_blk hb 18, A6, c6, cell_blk hb 19, cell_blk hb 20, hk6.1.stay hof, hk6.2⟩
  | 7, hj => cases hj; exact ⟨cell_blk hb 21, A7, c7, cell_blk hb 22, cell_blk hb 23, hk7.1.stay hof, hk7.2⟩
  | 8, hj => cases hj; exact ⟨cell_blk hb 24, A8, c8, cell_blk hb 25, cell_blk hb 26, hk8.1.stay hof, hk8.2⟩
  | 9, hj => cases hj; exact ⟨cell_blk hb 27, A9, c9, cell_blk hb 28, cell_blk hb 29, hk9.1.stay hof, hk9.2⟩
  | 10, hj => cases hj; exact ⟨cell_blk hb 30, A10, c10, cell_blk hb 31, cell_blk hb 32, hk10.1.stay hof, hk10.2⟩
  | 11, hj => cases hj; exact ⟨cell_blk hb 33, A11, c11, cell_blk hb 34, cell_blk hb 35, hk11.1.stay hof, hk11.2⟩
  | 12, hj => cases hj; exact ⟨cell_blk hb 36, A12, c12, cell_blk hb 37, cell_blk hb 38, hk12.1.stay hof, hk12.2⟩
  | 13, hj => cases hj; exact ⟨cell_blk hb 39, A13, c13, cell_blk hb 40, cell_blk hb 41, hk13.1.stay hof, hk13.2⟩
  | 14, hj => cases hj; exact ⟨cell_blk hb 42, A14, c14, cell_blk hb 43, cell_blk hb 44, hk14.1.stay hof, hk14.2⟩
  | 15, hj => cases hj; exact ⟨cell_blk hb 45, A15, c15, cell_blk hb 46, cell_blk hb 47, hk15.1.stay hof, hk15.2⟩
  | 16, hj => cases hj; exact ⟨cell_blk hb 48, A16, c16, cell_blk hb 49, cell_blk hb 50, hk16.1.stay hof, hk16.2⟩
  | 17, hj => cases hj; exact ⟨cell_blk hb 51, A17, c17, cell_blk hb 52, cell_blk hb 53, hk17.1.stay hof, hk17.2⟩
  | 18, hj => cases hj; exact ⟨cell_blk hb 54, A18, c18, cell_blk hb 55, cell_blk hb 56, hk18.1.stay hof, hk18.2⟩
  | 19, hj => cases hj; exact ⟨cell_blk hb 57, A19, c19, cell_blk hb 58, cell_blk hb 59, hk19.1.stay hof, hk19.2⟩
  | 20, hj => cases hj; exact ⟨cell_blk hb 60, A20, c20, cell_blk hb 61, cell_blk hb 62, hk20.1.stay hof, hk20.2⟩
  | 21, hj => cases hj; exact ⟨cell_blk hb 63, A21, c21, cell_blk hb 64, cell_blk hb 65, hk21.1.stay hof, hk21.2⟩
  | 22, hj => cases hj; exact ⟨cell_blk hb 66, A22, c22, cell_blk hb 67, cell_blk hb 68, hk22.1.stay hof, hk22.2⟩
  | 23, hj => cases hj; exact ⟨cell_blk hb 69, A23, c23, cell_blk hb 70, cell_blk hb 71, hk23.1.stay hof, hk23.2⟩
  | 24, hj => cases hj; exact ⟨cell_blk hb 72, A24, c24, cell_blk hb 73, cell_blk hb 74, hk24.1.stay hof, hk24.2⟩
  | n + 25, hj => cases hj
 refine ⟨?_, ?_⟩
 ·intro listed a w K hI ha hK
  have g0 := hI.got 58 (ha ⟨58, .data⟩ (by simp) rfl) _ rfl
  obtain ⟨A, cap, e, hk⟩ := g0
  simp only [Oper.wp, go_sem]
  change a.tmps.getD 193 undef = _ at e
  rw [e]
  refine upon_ok (v := .slice A row25.length cap) (w' := w) (by kernel_rfl) ?_
  exact hK _ _ (hI.put rfl h0 59 (by decide) _ rfl (Stay.refl _ _) ⟨A, cap, rfl, hk⟩)
 exact trivial
end
theorem ops15_ok : plainOps 0 (((Tryz.f3.body).bind (findR 15)).getD #[]).toList = true := by kernel_rfl
theorem ops15_size : (((Tryz.f3.body).bind (findR 15)).getD #[]).size = 60 := by kernel_rfl
set_option maxRecDepth 100000
set_option maxHeartbeats 4000000
theorem tmps15 (t t0 : Array Value) (g : Nat → Value) (v : Value) (hg : ∀ i, t.getD i undef = g i) (h : t.size = 234) (hold : ∀ i, i < 135 → i ≠ 17 → t.getD i undef = t0.getD i undef) (h17 : t.getD 17 undef = v) : t = ((List.range 135).map (fun i => if i = 17 then v else t0.getD i undef) ++ (List.range' 135 99).map g).toArray := by
 apply Array.ext
 ·simp [h]
 ·intro i h1 h2
  have e : t[i] = t.getD i undef := by simp [h1]
  rw [e]
  by_cases hi : i < 135
  ·by_cases h7 : i = 17
   ·subst h7
    rw [h17]
    simp
   ·rw [hold i hi h7]
    simp [List.getElem_append, hi, h7]
  ·rw [hg]
   simp [List.getElem_append, hi]
   congr 1
   omega
theorem tmps_at (x0 x1 x2 x3 x4 x5 x6 x7 x8 x9 x10 x11 x12 x13 x14 x15 x16 x17 x18 x19 x20 x21 x22 x23 x24 x25 x26 x27 x28 x29 x30 x31 x32 x33 x34 x35 x36 x37 x38 x39 x40 x41 x42 x43 x44 x45 x46 x47 x48 x49 x50 x51 x52 x53 x54 x55 x56 x57 x58 x59 x60 x61 x62 x63 x64 x65 x66 x67 x68 x69 x70 x71 x72 x73 x74 x75 x76 x77 x78 x79 x80 x81 x82 x83 x84 x85 x86 x87 x88 x89 x90 x91 x92 x93 x94 x95 x96 x97 x98 x99 x100 x101 x102 x103 x104 x105 x106 x107 x108 x109 x110 x111 x112 x113 x114 x115 x116 x117 x118 x119 x120 x121 x122 x123 x124 x125 x126 x127 x128 x129 x130 x131 x132 x133 x134 x135 x136 x137 x138 x139 x140 x141 x142 x143 x144 x145 x146 x147 x148 x149 x150 x151 x152 x153 x154 x155 x156 x157 x158 x159 x160 x161 x162 x163 x164 x165 x166 x167 x168 x169 x170 x171 x172 x173 x174 x175 x176 x177 x178 x179 x180 x181 x182 x183 x184 x185 x186 x187 x188 x189 x190 x191 x192 x193 x194 x195 x196 x197 x198 x199 x200 x201 x202 x203 x204 x205 x206 x207 x208 x209 x210 x211 x212 x213 x214 x215 x216 x217 x218 x219 x220 x221 x222 x223 x224 x225 x226 x227 x228 x229 x230 x231 x232 x233 v : Value) (g : Nat → Value) : ((List.range 135).map (fun i => if i = 17 then v else (#[x0, x1, x2, x3, x4, x5, x6, x7, x8, x9, x10, x11, x12, x13, x14, x15, x16, x17, x18, x19, x20, x21, x22, x23, x24, x25, x26, x27, x28, x29, x30, x31, x32, x33, x34, x35, x36, x37, x38, x39, x40, x41, x42, x43, x44, x45, x46, x47, x48, x49, x50, x51, x52, x53, x54, x55, x56, x57, x58, x59, x60, x61, x62, x63, x64, x65, x66, x67, x68, x69, x70, x71, x72, x73, x74, x75, x76, x77, x78, x79, x80, x81, x82, x83, x84, x85, x86, x87, x88, x89, x90, x91, x92, x93, x94, x95, x96, x97, x98, x99, x100, x101, x102, x103, x104, x105, x106, x107, x108, x109, x110, x111, x112, x113, x114, x115, x116, x117, x118, x119, x120, x121, x122, x123, x124, x125, x126, x127, x128, x129, x130, x131, x132, x133, x134, x135, x136, x137, x138, x139, x140, x141, x142, x143, x144, x145, x146, x147, x148, x149, x150, x151, x152, x153, x154, x155, x156, x157, x158, x159, x160, x161, x162, x163, x164, x165, x166, x167, x168, x169, x170, x171, x172, x173, x174, x175, x176, x177, x178, x179, x180, x181, x182, x183, x184, x185, x186, x187, x188, x189, x190, x191, x192, x193, x194, x195, x196, x197, x198, x199, x200, x201, x202, x203, x204, x205, x206, x207, x208, x209, x210, x211, x212, x213, x214, x215, x216, x217, x218, x219, x220, x221, x222, x223, x224, x225, x226, x227, x228, x229, x230, x231, x232, x233] : Array Value).getD i undef) ++ (List.range' 135 99).map g).toArray = #[x0, x1, x2, x3, x4, x5, x6, x7, x8, x9, x10, x11, x12, x13, x14, x15, x16, v, x18, x19, x20, x21, x22, x23, x24, x25, x26, x27, x28, x29, x30, x31, x32, x33, x34, x35, x36, x37, x38, x39, x40, x41, x42, x43, x44, x45, x46, x47, x48, x49, x50, x51, x52, x53, x54, x55, x56, x57, x58, x59, x60, x61, x62, x63, x64, x65, x66, x67, x68, x69, x70, x71, x72, x73, x74, x75, x76, x77, x78, x79, x80, x81, x82, x83, x84, x85, x86, x87, x88, x89, x90, x91, x92, x93, x94, x95, x96, x97, x98, x99, x100, x101, x102, x103, x104, x105, x106, x107, x108, x109, x110, x111, x112, x113, x114, x115, x116, x117, x118, x119, x120, x121, x122, x123, x124, x125, x126, x127, x128, x129, x130, x131, x132, x133, x134, g 135, g 136, g 137, g 138, g 139, g 140, g 141, g 142, g 143, g 144, g 145, g 146, g 147, g 148, g 149, g 150, g 151, g 152, g 153, g 154, g 155, g 156, g 157, g 158, g 159, g 160, g 161, g 162, g 163, g 164, g 165, g 166, g 167, g 168, g 169, g 170, g 171, g 172, g 173, g 174, g 175, g 176, g 177, g 178, g 179, g 180, g 181, g 182, g 183, g 184, g 185, g 186, g 187, g 188, g 189, g 190, g 191, g 192, g 193, g 194, g 195, g 196, g 197, g 198, g 199, g 200, g 201, g 202, g 203, g 204, g 205, g 206, g 207, g 208, g 209, g 210, g 211, g 212, g 213, g 214, g 215, g 216, g 217, g 218, g 219, g 220, g 221, g 222, g 223, g 224, g 225, g 226, g 227, g 228, g 229, g 230, g 231, g 232, g 233] := by kernel_rfl
theorem reg15 (ops : Array Oper) (hops : (Tryz.f3.body).bind (findR 15) = some ops) (x0 x1 x2 x3 x4 x5 x6 x7 x8 x9 x10 x11 x12 x13 x14 x15 x16 x17 x18 x19 x20 x21 x22 x23 x24 x25 x26 x27 x28 x29 x30 x31 x32 x33 x34 x35 x36 x37 x38 x39 x40 x41 x42 x43 x44 x45 x46 x47 x48 x49 x50 x51 x52 x53 x54 x55 x56 x57 x58 x59 x60 x61 x62 x63 x64 x65 x66 x67 x68 x69 x70 x71 x72 x73 x74 x75 x76 x77 x78 x79 x80 x81 x82 x83 x84 x85 x86 x87 x88 x89 x90 x91 x92 x93 x94 x95 x96 x97 x98 x99 x100 x101 x102 x103 x104 x105 x106 x107 x108 x109 x110 x111 x112 x113 x114 x115 x116 x117 x118 x119 x120 x121 x122 x123 x124 x125 x126 x127 x128 x129 x130 x131 x132 x133 x134 x135 x136 x137 x138 x139 x140 x141 x142 x143 x144 x145 x146 x147 x148 x149 x150 x151 x152 x153 x154 x155 x156 x157 x158 x159 x160 x161 x162 x163 x164 x165 x166 x167 x168 x169 x170 x171 x172 x173 x174 x175 x176 x177 x178 x179 x180 x181 x182 x183 x184 x185 x186 x187 x188 x189 x190 x191 x192 x193 x194 x195 x196 x197 x198 x199 x200 x201 x202 x203 x204 x205 x206 x207 x208 x209 x210 x211 x212 x213 x214 x215 x216 x217 x218 x219 x220 x221 x222 x223 x224 x225 x226 x227 x228 x229 x230 x231 x232 x233 : Value) (d : List Deferred) (Q : Exit → Act → World → Prop) (w0 : World) (h16 : Sp.Ok w0.heap.size w0 x16 (.byt hundred))
  (hQ : ∀ (y135 y136 y137 y138 y139 y140 y141 y142 y143 y144 y145 y146 y147 y148 y149 y150 y151 y152 y153 y154 y155 y156 y157 y158 y159 y160 y161 y162 y163 y164 y165 y166 y167 y168 y169 y170 y171 y172 y173 y174 y175 y176 y177 y178 y179 y180 y181 y182 y183 y184 y185 y186 y187 y188 y189 y190 y191 y192 y193 y194 y195 y196 y197 y198 y199 y200 y201 y202 y203 y204 y205 y206 y207 y208 y209 y210 y211 y212 y213 y214 y215 y216 y217 y218 y219 y220 y221 y222 y223 y224 y225 y226 y227 y228 y229 y230 y231 y232 y233 : Value) (A : Option Addr) (cap : Nat) (w : World), Off (fun _ => False) w0 w → CJs w w A row25 → 25 ≤ cap → cap ≤ maxLen → Q .normal ⟨#[x0, x1, x2, x3, x4, x5, x6, x7, x8, x9, x10, x11, x12, x13, x14, x15, x16, (.slice A 25 cap), x18, x19, x20, x21, x22, x23, x24, x25, x26, x27, x28, x29, x30, x31, x32, x33, x34, x35, x36, x37, x38, x39, x40, x41, x42, x43, x44, x45, x46, x47, x48, x49, x50, x51, x52, x53, x54, x55, x56, x57, x58, x59, x60, x61, x62, x63, x64, x65, x66, x67, x68, x69, x70, x71, x72, x73, x74, x75, x76, x77, x78, x79, x80, x81, x82, x83, x84, x85, x86, x87, x88, x89, x90, x91, x92, x93, x94, x95, x96, x97, x98, x99, x100, x101, x102, x103, x104, x105, x106, x107, x108, x109, x110, x111, x112, x113, x114, x115, x116, x117, x118, x119, x120, x121, x122, x123, x124, x125, x126, x127, x128, x129, x130, x131, x132, x133, x134, y135, y136, y137, y138, y139, y140, y141, y142, y143, y144, y145, y146, y147, y148, y149, y150, y151, y152, y153, y154, y155, y156, y157, y158, y159, y160, y161, y162, y163, y164, y165, y166, y167, y168, y169, y170, y171, y172, y173, y174, y175, y176, y177, y178, y179, y180, y181, y182, y183, y184, y185, y186, y187, y188, y189, y190, y191, y192, y193, y194, y195, y196, y197, y198, y199, y200, y201, y202, y203, y204, y205, y206, y207, y208, y209, y210, y211, y212, y213, y214, y215, y216, y217, y218, y219, y220, y221, y222, y223, y224, y225, y226, y227, y228, y229, y230, y231, y232, y233], d⟩ w) :
  (Code.region 15 ops true).wp Tryz.prog Q ⟨#[x0, x1, x2, x3, x4, x5, x6, x7, x8, x9, x10, x11, x12, x13, x14, x15, x16, x17, x18, x19, x20, x21, x22, x23, x24, x25, x26, x27, x28, x29, x30, x31, x32, x33, x34, x35, x36, x37, x38, x39, x40, x41, x42, x43, x44, x45, x46, x47, x48, x49, x50, x51, x52, x53, x54, x55, x56, x57, x58, x59, x60, x61, x62, x63, x64, x65, x66, x67, x68, x69, x70, x71, x72, x73, x74, x75, x76, x77, x78, x79, x80, x81, x82, x83, x84, x85, x86, x87, x88, x89, x90, x91, x92, x93, x94, x95, x96, x97, x98, x99, x100, x101, x102, x103, x104, x105, x106, x107, x108, x109, x110, x111, x112, x113, x114, x115, x116, x117, x118, x119, x120, x121, x122, x123, x124, x125, x126, x127, x128, x129, x130, x131, x132, x133, x134, x135, x136, x137, x138, x139, x140, x141, x142, x143, x144, x145, x146, x147, x148, x149, x150, x151, x152, x153, x154, x155, x156, x157, x158, x159, x160, x161, x162, x163, x164, x165, x166, x167, x168, x169, x170, x171, x172, x173, x174, x175, x176, x177, x178, x179, x180, x181, x182, x183, x184, x185, x186, x187, x188, x189, x190, x191, x192, x193, x194, x195, x196, x197, x198, x199, x200, x201, x202, x203, x204, x205, x206, x207, x208, x209, x210, x211, x212, x213, x214, x215, x216, x217, x218, x219, x220, x221, x222, x223, x224, x225, x226, x227, x228, x229, x230, x231, x232, x233], d⟩ w0 := by
 obtain ⟨t0, ht0⟩ : ∃ t, t = #[x0, x1, x2, x3, x4, x5, x6, x7, x8, x9, x10, x11, x12, x13, x14, x15, x16, x17, x18, x19, x20, x21, x22, x23, x24, x25, x26, x27, x28, x29, x30, x31, x32, x33, x34, x35, x36, x37, x38, x39, x40, x41, x42, x43, x44, x45, x46, x47, x48, x49, x50, x51, x52, x53, x54, x55, x56, x57, x58, x59, x60, x61, x62, x63, x64, x65, x66, x67, x68, x69, x70, x71, x72, x73, x74, x75, x76, x77, x78, x79, x80, x81, x82, x83, x84, x85, x86, x87, x88, x89, x90, x91, x92, x93, x94, x95, x96, x97, x98, x99, x100, x101, x102, x103, x104, x105, x106, x107, x108, x109, x110, x111, x112, x113, x114, x115, x116, x117, x118, x119, x120, x121, x122, x123, x124, x125, x126, x127, x128, x129, x130, x131, x132, x133, x134, x135, x136, x137, x138, x139, x140, x141, x142, x143, x144, x145, x146, x147, x148, x149, x150, x151, x152, x153, x154, x155, x156, x157, x158, x159, x160, x161, x162, x163, x164, x165, x166, x167, x168, x169, x170, x171, x172, x173, x174, x175, x176, x177, x178, x179, x180, x181, x182, x183, x184, x185, x186, x187, x188, x189, x190, x191, x192, x193, x194, x195, x196, x197, x198, x199, x200, x201, x202, x203, x204, x205, x206, x207, x208, x209, x210, x211, x212, x213, x214, x215, x216, x217, x218, x219, x220, x221, x222, x223, x224, x225, x226, x227, x228, x229, x230, x231, x232, x233] := ⟨_, rfl⟩
 have hz : t0.size = 234 := by rw [ht0]; rfl
 have hx : t0.getD 16 undef = x16 := by rw [ht0]; rfl
 rw [← ht0]
 have e : ((Tryz.f3.body).bind (findR 15)).getD #[] = ops := by rw [hops]; rfl
 subst e
 refine wp_region_any rfl ?_
 have h16' := h16.stay (Stay.of_off (B := 0) (off_drew w0 1))
 rw [← hx] at h16'
 have hst := steps15 (w0 := w0.drewN 1) (a0 := ⟨t0, d⟩) (Q := Q) hz h16'
 refine wpAny_inv ops15_ok hst (fun listed a w hI hall => ?_) _ _ _ _ ?_ ?_ ?_
 ·obtain ⟨A, cap, e17, hcj, hc1, hc2⟩ := hI.got 59 (hall 59 (by rw [ops15_size]; decide)) _ rfl
  obtain ⟨g, hg⟩ : ∃ g : Nat → Value, ∀ i, a.tmps.getD i undef = g i := ⟨_, fun _ => rfl⟩
  have ht := tmps15 a.tmps t0 g (.slice A 25 cap) hg (hI.size.trans hz) (fun i h1 h2 => hI.old i h1 h2) e17
  have hd := hI.dfr
  have hoff := hI.off.off
  obtain ⟨t, df⟩ := a
  change df = d at hd
  change t = _ at ht
  rw [ht, hd, ht0, tmps_at]
  exact hQ (g 135) (g 136) (g 137) (g 138) (g 139) (g 140) (g 141) (g 142) (g 143) (g 144) (g 145) (g 146) (g 147) (g 148) (g 149) (g 150) (g 151) (g 152) (g 153) (g 154) (g 155) (g 156) (g 157) (g 158) (g 159) (g 160) (g 161) (g 162) (g 163) (g 164) (g 165) (g 166) (g 167) (g 168) (g 169) (g 170) (g 171) (g 172) (g 173) (g 174) (g 175) (g 176) (g 177) (g 178) (g 179) (g 180) (g 181) (g 182) (g 183) (g 184) (g 185) (g 186) (g 187) (g 188) (g 189) (g 190) (g 191) (g 192) (g 193) (g 194) (g 195) (g 196) (g 197) (g 198) (g 199) (g 200) (g 201) (g 202) (g 203) (g 204) (g 205) (g 206) (g 207) (g 208) (g 209) (g 210) (g 211) (g 212) (g 213) (g 214) (g 215) (g 216) (g 217) (g 218) (g 219) (g 220) (g 221) (g 222) (g 223) (g 224) (g 225) (g 226) (g 227) (g 228) (g 229) (g 230) (g 231) (g 232) (g 233) A cap w (Off.zero (w0 := w0) ((off_drew w0 1).mono (fun _ _ q => q.elim) |>.trans hoff)) hcj hc1 hc2
 ·rw [ops15_size]; decide
 ·rw [ops15_size]; decide
 ·exact ⟨Stay.refl _ _, rfl, rfl, fun _ _ _ => rfl, fun i hi => by
   exfalso
   rw [ops15_size] at hi
   rw [Array.getD_eq_getD_getElem?, Array.getElem?_replicate] at hi
   split at hi <;> cases hi⟩
def TameB (b : List UInt8) : Prop := (∃ c s k i n, Nums b c s k i n ∧ c.toNat ≠ 67 ∧ c.toNat ≠ 82) ∨ ∃ c s k i n l, IsPart b c s k i n l
def Tame (now : Nat → List UInt8) (base half : Nat) : Prop := ∀ x, x < half - 1 → TameB (now (base + 1 + x))
theorem TameB.none {b : List UInt8} (h : TameB b) (hn : NoPart b) : ∃ c s k i n, Nums b c s k i n ∧ c.toNat ≠ 67 ∧ c.toNat ≠ 82 := by
 rcases h with h | ⟨c, s, k, i, n, l, hp⟩
 ·exact h
 ·obtain ⟨c', h0, h1, h2⟩ := hn
  rw [(part_nums hp).c0] at h0
  cases h0
  rcases hp.tag with e | e <;> rw [e] at h1 h2
  ·exact absurd rfl h1
  ·exact absurd rfl h2
theorem rread_t (S : Nat → Prop) (m : Nat) (x : Int) (i : Nat) (D : Dsk) (w : World) (h : RefAt w S m D) (hx : x = (i : Int)) (hi : i < D.n) (ho : D.off = false) (hf : Full D) :
  Calls Tryz.prog 69 #[.pointer (some ⟨m, 0, none⟩), .int .i64 x] w fun e w' => e = .returned (.tuple #[strV (D.now i), .int .i64 0]) ∧ w = w' := by
 rw [hx]
 exact rread_told S m i D w h hi ho hf
theorem rpart_x {b : List UInt8} {c : UInt8} {s k i n : Nat} {m : List UInt8} (hp : IsPart b c s k i n m) (w : World) :
  Calls Tryz.prog 100 #[strV b] w fun e w' => e = .returned (.tuple #[.agg #[.int .u8 (c.toNat : Int), .int .i64 (s : Int), .int .i64 (k : Int), .int .i64 (i : Int), .int .i64 (n : Int), strV m], .bool true]) ∧ Below w.heap.size w w' := rtold_part b c s k i n m hp w
theorem rnone_x {b : List UInt8} (h : TameB b) (hn : NoPart b) (w : World) :
  Calls Tryz.prog 100 #[strV b] w fun e w' => ∃ x0 x1 x2 x3 x4 : Nat, e = .returned (.tuple #[.agg #[.int .u8 (x0 : Int), .int .i64 (x1 : Int), .int .i64 (x2 : Int), .int .i64 (x3 : Int), .int .i64 (x4 : Int), .string ByteArray.empty], .bool false]) ∧ Below w.heap.size w w' := by
 obtain ⟨c, s, k, i, n, h0, h1, h2⟩ := h.none hn
 refine (rtold_none b c s k i n h0 h1 h2 w).mono ?_
 rintro e w' ⟨rfl, hb⟩
 exact ⟨_, _, _, _, _, rfl, hb⟩
def wholeV (done : Bool) (f : Nat → List UInt8) (s M : Nat) : Value := match done with
 | true => .tuple #[strV (joined f M), .int .i64 (s : Int), .int .i64 (M : Int)]
 | false => .tuple #[strV [], .int .i64 0, .int .i64 0]
theorem wholeV_t (f : Nat → List UInt8) (s M : Nat) : wholeV true f s M = .tuple #[.string (bs (joined f M)), .int .i64 (s : Int), .int .i64 (M : Int)] := rfl
theorem bs_app (a b : List UInt8) : bs a ++ bs b = bs (a ++ b) := by
 apply ByteArray.ext
 rw [ByteArray.data_append]
 simp [bs]
theorem rwhole0 (S : Nat → Prop) (m : Nat) (D : Dsk) (at0 : Nat) (c : UInt8) (s k M q : Nat) (f : Nat → List UInt8) (done : Bool) (w : World) (h : RefAt w S m D) (ho : D.off = false) (hf : Full D) (hrun : Run D.now (0 * (D.n / 2) + 1 + at0) c s k M f q) (hroom : at0 + q ≤ D.n / 2 - 1) (h4 : 4 ≤ D.n)
  (ht : Tame D.now (0 * (D.n / 2)) (D.n / 2)) (hyes : done = true → q = M ∧ 1 ≤ M) (hno : done = false → q < M ∧ (D.n / 2 - 1 ≤ at0 + q ∨ Ends (D.now (0 * (D.n / 2) + 1 + at0 + q)) c s k M q)) :
  Calls Tryz.prog 94 #[.pointer (some ⟨m, 0, none⟩), .int .i64 0, .int .i64 (at0 : Int), .int .u8 (c.toNat : Int), .int .i64 (k : Int)] w fun e w' => e = .returned (wholeV done f s M) ∧ Below w.heap.size w w' := by
 have HR := Lib.hid h
 have HO := Lib.hid ho
 have HF := Lib.hid hf
 have HRUN := Lib.hid hrun
 have HT := Lib.hid ht
 have HY := Lib.hid hyes
 have HNO := Lib.hid hno
 have hn := h.1
 obtain ⟨hh, hhe⟩ : ∃ x, x = D.n / 2 := ⟨_, rfl⟩
 have HHE := Lib.hid hhe
 have hhn : hh ≤ 8192 := by omega
 have hh1 : (1 : Int) ≤ (hh : Int) := by omega
 have hroom' : at0 + q ≤ hh - 1 := by rw [hhe]; exact hroom
 have HHALF : Hid (∀ v, Below w.heap.size w v → Calls Tryz.prog 92 #[.pointer (some ⟨m, 0, none⟩)] v fun e w' => e = .returned (.int .i64 (hh : Int)) ∧ v = w') := fun v hv => by rw [hhe]; exact rhalf_at S m D v (HR.out.grown (Below.to_grown hv))
 have HREAD : Hid (∀ v x i, Below w.heap.size w v → x = ((0 + 1 + at0 + i : Nat) : Int) → i < hh - 1 - at0 → Calls Tryz.prog 69 #[.pointer (some ⟨m, 0, none⟩), .int .i64 x] v fun e w' => e = .returned (.tuple #[strV (D.now (0 * (D.n / 2) + 1 + at0 + i)), .int .i64 0]) ∧ v = w') := fun v x i hv hx hi => by
  refine rread_t S m x _ D v (HR.out.grown (Below.to_grown hv)) ?_ ?_ HO.out HF.out
  ·rw [hx]; congr 1; omega
  ·omega
 have hq6 : q ≤ 8192 := by omega
 have HSZ : Hid (∀ i, i ≤ q → (joined f i).length ≤ 102 * i) := fun i hi => joined_le f i (fun j hj => (HRUN.out j (by omega)).len)
 clear h ho hf hrun hroom ht hyes hno hhe hn h4
 go_enter Tryz.func94, Tryz.ntmps94
 go_wp2_with fail
 refine (HHALF.out _ (Below.refl _ _)).mono ?_
 rintro e w' ⟨rfl, rfl⟩
 go_wp2_with fail
 go_loopw [13, 14, 15, 17] (fun v13 v14 v15 v17 wr => ∃ i : Nat, i ≤ q ∧ (done = true → i < M) ∧ v17 = .int .i64 (i : Int) ∧ v13 = strV (joined f i) ∧ v14 = .int .i64 ((if i = 0 then 0 else s : Nat) : Int) ∧ v15 = .int .i64 ((if i = 0 then 0 else M : Nat) : Int) ∧ Below w.heap.size w wr) (fun _ _ _ v17 _ => 10000 - (intOf v17).toNat)
 case atStart => exact ⟨0, Nat.zero_le _, fun h => (HY.out h).2, rfl, rfl, rfl, rfl, Below.refl _ _⟩
 case round =>
  obtain ⟨i, hi, him, rfl, rfl, rfl, rfl, hb⟩ := hrel
  have HB := Lib.hid hb
  have HIM := Lib.hid him
  clear hb him
  by_cases hiq : i < q
  ·have hp := HRUN.out i hiq
   have hM1 : (1 : Int) ≤ (M : Int) := by have := hp.lt; omega
   have hM2 : (M : Int) ≤ 65535 := by have := hp.n16; omega
   have hroomd : decide ((at0 : Int) + (i : Int) < (hh : Int) - 1) = true := by simp; omega
   have hcat : ¬ 9223372036854775807 < (bs (joined f i)).size + (bs (f i)).size := by
    have h1 := HSZ.out i hi
    have h2 := hp.len
    rw [bs_size, bs_size]
    omega
   have HP := Lib.hid hp
   obtain ⟨jl, hjl⟩ : ∃ l, l = joined f i := ⟨_, rfl⟩
   obtain ⟨fl, hfl⟩ : ∃ l, l = f i := ⟨_, rfl⟩
   have HJ : Hid (joined f (i + 1) = jl ++ fl) := by show _ = _; rw [joined_succ, hjl, hfl]
   rw [← hjl, ← hfl] at hcat
   rw [← hjl]
   rw [← hfl] at HP
   have hre := fun v x hv hx => HREAD.out v x i hv hx (by omega)
   obtain ⟨bi, hbi⟩ : ∃ b, b = D.now (0 * (D.n / 2) + 1 + at0 + i) := ⟨_, rfl⟩
   rw [← hbi] at HP hre
   have HRE := Lib.hid hre
   clear hp hjl hfl hre hbi
   by_cases h0 : i = 0
   have hd0 : decide ((0 : Int) < (i : Int)) = false := by simp; omega
   have hd1 : decide (0 < i) = false := by simp; omega
   rw [if_pos h0, if_pos h0]
   have H0 := Lib.hid h0
   rotate_left
   have hd0 : decide ((0 : Int) < (i : Int)) = true := by simp; omega
   have hd1 : decide (0 < i) = true := by simp; omega
   rw [if_neg h0, if_neg h0]
   rotate_left
   all_goals
    clear h0
    by_cases hl : i + 1 = M
    ·have eM : ((i : Int) == (M : Int) - 1) = true := by simp; omega
     go_wp2_with fail
     refine (HHALF.out _ HB.out).mono ?_
     rintro e w' ⟨rfl, rfl⟩
     go_wp2_with fail
     refine (HRE.out _ _ HB.out (by omega)).mono ?_
     rintro e w' ⟨rfl, rfl⟩
     go_wp2_with fail
     refine (rpart_x HP.out _).mono ?_
     rintro e w2 ⟨rfl, hb2⟩
     have HB2 := Lib.hid (HB.out.trans (hb2.mono HB.out.size))
     clear hb2
     go_wp2_with fail
     go_quiet (fail)
     go_wp2_with fail
     go_ret3
     have hdn : done = true := by
      cases done with
      | true => rfl
      | false => have := (HNO.out rfl).1; omega
     rw [hdn, ← hl, wholeV_t, HJ.out, ← bs_app]
     exact ⟨rfl, below_drewN (HB2.out.trans (grown_below0 (World.grownBy_alloc w2 _ none) HB2.out.size)) _⟩
    ·have eM : ((i : Int) == (M : Int) - 1) = false := by simp; omega
     go_wp2_with fail
     refine (HHALF.out _ HB.out).mono ?_
     rintro e w' ⟨rfl, rfl⟩
     go_wp2_with fail
     refine (HRE.out _ _ HB.out (by omega)).mono ?_
     rintro e w' ⟨rfl, rfl⟩
     go_wp2_with fail
     refine (rpart_x HP.out _).mono ?_
     rintro e w2 ⟨rfl, hb2⟩
     have HB2 := Lib.hid (HB.out.trans (hb2.mono HB.out.size))
     clear hb2
     go_wp2_with fail
     go_roundw
     case rel => exact ⟨i + 1, hiq, fun h => by have := HIM.out h; omega, by go_num, by rw [bs_app, ← HJ.out], by rw [if_neg (by omega)], by rw [if_neg (by omega)], HB2.out.trans (grown_below0 (World.grownBy_alloc w2 _ none) HB2.out.size)⟩
     case measure => simp [intOf]; omega
  ·obtain rfl : i = q := by omega
   cases done with
   | true => exact absurd (HY.out rfl).1 (by have := HIM.out rfl; omega)
   | false =>
    obtain ⟨st, hst⟩ : ∃ x : Nat, x = (if i = 0 then 0 else s) := ⟨_, rfl⟩
    obtain ⟨mt, hmt⟩ : ∃ x : Nat, x = (if i = 0 then 0 else M) := ⟨_, rfl⟩
    rw [← hst, ← hmt]
    have HSM := Lib.hid (And.intro hst hmt)
    clear hst hmt
    by_cases hend : hh - 1 ≤ at0 + i
    ·have hroomd : decide ((at0 : Int) + (i : Int) < (hh : Int) - 1) = false := by simp; omega
     clear hend
     go_wp2_with fail
     go_ret3
     exact ⟨rfl, HB.out⟩
    have hroomd : decide ((at0 : Int) + (i : Int) < (hh : Int) - 1) = true := by simp; omega
    have hE : Ends (D.now (0 * (D.n / 2) + 1 + at0 + i)) c s k M i := (HNO.out rfl).2.resolve_left (by rw [← HHE.out]; exact hend)
    have hTb : TameB (D.now (0 * (D.n / 2) + 1 + at0 + i)) := by
     have := HT.out (at0 + i) (by rw [← HHE.out]; omega)
     rwa [← Nat.add_assoc] at this
    have hre := fun v x hv hx => HREAD.out v x i hv hx (by omega)
    obtain ⟨bi, hbi⟩ : ∃ b, b = D.now (0 * (D.n / 2) + 1 + at0 + i) := ⟨_, rfl⟩
    rw [← hbi] at hE hTb hre
    have HRE := Lib.hid hre
    have HTB := Lib.hid hTb
    clear hre hbi hTb hend
    rcases hE with hNP | ⟨c', s', k', i', n', l', hp, hne⟩
    ·have HNP := Lib.hid hNP
     clear hNP
     go_wp2_with fail
     refine (HHALF.out _ HB.out).mono ?_
     rintro e w' ⟨rfl, rfl⟩
     go_wp2_with fail
     refine (HRE.out _ _ HB.out (by omega)).mono ?_
     rintro e w' ⟨rfl, rfl⟩
     go_wp2_with fail
     refine (rnone_x HTB.out HNP.out _).mono ?_
     rintro e w2 ⟨x0, x1, x2, x3, x4, rfl, hb2⟩
     have HB2 := Lib.hid (HB.out.trans (hb2.mono HB.out.size))
     clear hb2
     go_wp2_with fail
     go_ret3
     exact ⟨rfl, HB2.out.trans (grown_below0 (World.grownBy_alloc w2 _ none) HB2.out.size)⟩
    ·have HP := Lib.hid hp
     clear hp
     by_cases e1 : c' = c
     ·subst e1
      by_cases e2 : k' = k
      ·subst e2
       by_cases e3 : i' = i
       ·subst e3
        have h0 : 0 < i' ∧ (s' ≠ s ∨ n' ≠ M) := by
         rcases hne with h | h | h | h
         ·exact absurd rfl h
         ·exact absurd rfl h
         ·exact absurd rfl h
         ·exact h
        obtain ⟨h0, hsn⟩ := h0
        have hd0 : decide ((0 : Int) < (i' : Int)) = true := by simp; omega
        have hd1 : decide (0 < i') = true := by simp; omega
        have es : st = s := by rw [HSM.out.1, if_neg (by omega)]
        have em : mt = M := by rw [HSM.out.2, if_neg (by omega)]
        rw [es, em]
        clear hne h0 es em
        by_cases e4 : s' = s
        subst e4
        have hn : n' ≠ M := hsn.resolve_left (fun h => h rfl)
        have t1 : ((n' : Int) != (M : Int)) = true := by simp; omega
        have t2 : (n' != M) = true := by simp; omega
        clear hsn hn
        rotate_left
        have t1 : ((s' : Int) != (s : Int)) = true := by simp; omega
        have t2 : (s' != s) = true := by simp; omega
        clear hsn e4
        rotate_left
        all_goals
         go_wp2_with fail
         refine (HHALF.out _ HB.out).mono ?_
         rintro e w' ⟨rfl, rfl⟩
         go_wp2_with fail
         refine (HRE.out _ _ HB.out (by omega)).mono ?_
         rintro e w' ⟨rfl, rfl⟩
         go_wp2_with fail
         refine (rpart_x HP.out _).mono ?_
         rintro e w2 ⟨rfl, hb2⟩
         have HB2 := Lib.hid (HB.out.trans (hb2.mono HB.out.size))
         clear hb2
         go_wp2_with fail
         go_ret3
         exact ⟨rfl, HB2.out.trans (grown_below0 (World.grownBy_alloc w2 _ none) HB2.out.size)⟩
       ·have t1 : ((i' : Int) != (i : Int)) = true := by simp; omega
        have t2 : (i' != i) = true := by simp; omega
        clear e3 hne
        go_wp2_with fail
        refine (HHALF.out _ HB.out).mono ?_
        rintro e w' ⟨rfl, rfl⟩
        go_wp2_with fail
        refine (HRE.out _ _ HB.out (by omega)).mono ?_
        rintro e w' ⟨rfl, rfl⟩
        go_wp2_with fail
        refine (rpart_x HP.out _).mono ?_
        rintro e w2 ⟨rfl, hb2⟩
        have HB2 := Lib.hid (HB.out.trans (hb2.mono HB.out.size))
        clear hb2
        go_wp2_with fail
        go_ret3
        exact ⟨rfl, HB2.out.trans (grown_below0 (World.grownBy_alloc w2 _ none) HB2.out.size)⟩
      ·have t1 : ((k' : Int) != (k : Int)) = true := by simp; omega
       have t2 : (k' != k) = true := by simp; omega
       clear e2 hne
       go_wp2_with fail
       refine (HHALF.out _ HB.out).mono ?_
       rintro e w' ⟨rfl, rfl⟩
       go_wp2_with fail
       refine (HRE.out _ _ HB.out (by omega)).mono ?_
       rintro e w' ⟨rfl, rfl⟩
       go_wp2_with fail
       refine (rpart_x HP.out _).mono ?_
       rintro e w2 ⟨rfl, hb2⟩
       have HB2 := Lib.hid (HB.out.trans (hb2.mono HB.out.size))
       clear hb2
       go_wp2_with fail
       go_ret3
       exact ⟨rfl, HB2.out.trans (grown_below0 (World.grownBy_alloc w2 _ none) HB2.out.size)⟩
     ·have e5 : c'.toNat ≠ c.toNat := fun h => e1 (UInt8.toNat_inj.1 h)
      have t1 : ((c'.toNat : Int) != (c.toNat : Int)) = true := by simp; omega
      have t2 : (c'.toNat != c.toNat) = true := by simp; omega
      have t3 : (c' != c) = true := by simp [e1]
      clear e1 e5 hne
      go_wp2_with fail
      refine (HHALF.out _ HB.out).mono ?_
      rintro e w' ⟨rfl, rfl⟩
      go_wp2_with fail
      refine (HRE.out _ _ HB.out (by omega)).mono ?_
      rintro e w' ⟨rfl, rfl⟩
      go_wp2_with fail
      refine (rpart_x HP.out _).mono ?_
      rintro e w2 ⟨rfl, hb2⟩
      have HB2 := Lib.hid (HB.out.trans (hb2.mono HB.out.size))
      clear hb2
      go_wp2_with fail
      go_ret3
      exact ⟨rfl, HB2.out.trans (grown_below0 (World.grownBy_alloc w2 _ none) HB2.out.size)⟩
theorem rwhole1 (S : Nat → Prop) (m : Nat) (D : Dsk) (at0 : Nat) (c : UInt8) (s k M q : Nat) (f : Nat → List UInt8) (done : Bool) (w : World) (h : RefAt w S m D) (ho : D.off = false) (hf : Full D) (hrun : Run D.now (1 * (D.n / 2) + 1 + at0) c s k M f q) (hroom : at0 + q ≤ D.n / 2 - 1) (h4 : 4 ≤ D.n)
  (ht : Tame D.now (1 * (D.n / 2)) (D.n / 2)) (hyes : done = true → q = M ∧ 1 ≤ M) (hno : done = false → q < M ∧ (D.n / 2 - 1 ≤ at0 + q ∨ Ends (D.now (1 * (D.n / 2) + 1 + at0 + q)) c s k M q)) :
  Calls Tryz.prog 94 #[.pointer (some ⟨m, 0, none⟩), .int .i64 1, .int .i64 (at0 : Int), .int .u8 (c.toNat : Int), .int .i64 (k : Int)] w fun e w' => e = .returned (wholeV done f s M) ∧ Below w.heap.size w w' := by
 have HR := Lib.hid h
 have HO := Lib.hid ho
 have HF := Lib.hid hf
 have HRUN := Lib.hid hrun
 have HT := Lib.hid ht
 have HY := Lib.hid hyes
 have HNO := Lib.hid hno
 have hn := h.1
 obtain ⟨hh, hhe⟩ : ∃ x, x = D.n / 2 := ⟨_, rfl⟩
 have HHE := Lib.hid hhe
 have hhn : hh ≤ 8192 := by omega
 have hh1 : (1 : Int) ≤ (hh : Int) := by omega
 have hroom' : at0 + q ≤ hh - 1 := by rw [hhe]; exact hroom
 have HHALF : Hid (∀ v, Below w.heap.size w v → Calls Tryz.prog 92 #[.pointer (some ⟨m, 0, none⟩)] v fun e w' => e = .returned (.int .i64 (hh : Int)) ∧ v = w') := fun v hv => by rw [hhe]; exact rhalf_at S m D v (HR.out.grown (Below.to_grown hv))
 have HREAD : Hid (∀ v x i, Below w.heap.size w v → x = ((hh + 1 + at0 + i : Nat) : Int) → i < hh - 1 - at0 → Calls Tryz.prog 69 #[.pointer (some ⟨m, 0, none⟩), .int .i64 x] v fun e w' => e = .returned (.tuple #[strV (D.now (1 * (D.n / 2) + 1 + at0 + i)), .int .i64 0]) ∧ v = w') := fun v x i hv hx hi => by
  refine rread_t S m x _ D v (HR.out.grown (Below.to_grown hv)) ?_ ?_ HO.out HF.out
  ·rw [hx]; congr 1; omega
  ·omega
 have hq6 : q ≤ 8192 := by omega
 have HSZ : Hid (∀ i, i ≤ q → (joined f i).length ≤ 102 * i) := fun i hi => joined_le f i (fun j hj => (HRUN.out j (by omega)).len)
 clear h ho hf hrun hroom ht hyes hno hhe hn h4
 go_enter Tryz.func94, Tryz.ntmps94
 go_wp2_with fail
 refine (HHALF.out _ (Below.refl _ _)).mono ?_
 rintro e w' ⟨rfl, rfl⟩
 go_wp2_with fail
 go_loopw [13, 14, 15, 17] (fun v13 v14 v15 v17 wr => ∃ i : Nat, i ≤ q ∧ (done = true → i < M) ∧ v17 = .int .i64 (i : Int) ∧ v13 = strV (joined f i) ∧ v14 = .int .i64 ((if i = 0 then 0 else s : Nat) : Int) ∧ v15 = .int .i64 ((if i = 0 then 0 else M : Nat) : Int) ∧ Below w.heap.size w wr) (fun _ _ _ v17 _ => 10000 - (intOf v17).toNat)
 case atStart => exact ⟨0, Nat.zero_le _, fun h => (HY.out h).2, rfl, rfl, rfl, rfl, Below.refl _ _⟩
 case round =>
  obtain ⟨i, hi, him, rfl, rfl, rfl, rfl, hb⟩ := hrel
  have HB := Lib.hid hb
  have HIM := Lib.hid him
  clear hb him
  by_cases hiq : i < q
  ·have hp := HRUN.out i hiq
   have hM1 : (1 : Int) ≤ (M : Int) := by have := hp.lt; omega
   have hM2 : (M : Int) ≤ 65535 := by have := hp.n16; omega
   have hroomd : decide ((at0 : Int) + (i : Int) < (hh : Int) - 1) = true := by simp; omega
   have hcat : ¬ 9223372036854775807 < (bs (joined f i)).size + (bs (f i)).size := by
    have h1 := HSZ.out i hi
    have h2 := hp.len
    rw [bs_size, bs_size]
    omega
   have HP := Lib.hid hp
   obtain ⟨jl, hjl⟩ : ∃ l, l = joined f i := ⟨_, rfl⟩
   obtain ⟨fl, hfl⟩ : ∃ l, l = f i := ⟨_, rfl⟩
   have HJ : Hid (joined f (i + 1) = jl ++ fl) := by show _ = _; rw [joined_succ, hjl, hfl]
   rw [← hjl, ← hfl] at hcat
   rw [← hjl]
   rw [← hfl] at HP
   have hre := fun v x hv hx => HREAD.out v x i hv hx (by omega)
   obtain ⟨bi, hbi⟩ : ∃ b, b = D.now (1 * (D.n / 2) + 1 + at0 + i) := ⟨_, rfl⟩
   rw [← hbi] at HP hre
   have HRE := Lib.hid hre
   clear hp hjl hfl hre hbi
   by_cases h0 : i = 0
   have hd0 : decide ((0 : Int) < (i : Int)) = false := by simp; omega
   have hd1 : decide (0 < i) = false := by simp; omega
   rw [if_pos h0, if_pos h0]
   have H0 := Lib.hid h0
   rotate_left
   have hd0 : decide ((0 : Int) < (i : Int)) = true := by simp; omega
   have hd1 : decide (0 < i) = true := by simp; omega
   rw [if_neg h0, if_neg h0]
   rotate_left
   all_goals
    clear h0
    by_cases hl : i + 1 = M
    ·have eM : ((i : Int) == (M : Int) - 1) = true := by simp; omega
     go_wp2_with fail
     refine (HHALF.out _ HB.out).mono ?_
     rintro e w' ⟨rfl, rfl⟩
     go_wp2_with fail
     refine (HRE.out _ _ HB.out (by omega)).mono ?_
     rintro e w' ⟨rfl, rfl⟩
     go_wp2_with fail
     refine (rpart_x HP.out _).mono ?_
     rintro e w2 ⟨rfl, hb2⟩
     have HB2 := Lib.hid (HB.out.trans (hb2.mono HB.out.size))
     clear hb2
     go_wp2_with fail
     go_quiet (fail)
     go_wp2_with fail
     go_ret3
     have hdn : done = true := by
      cases done with
      | true => rfl
      | false => have := (HNO.out rfl).1; omega
     rw [hdn, ← hl, wholeV_t, HJ.out, ← bs_app]
     exact ⟨rfl, below_drewN (HB2.out.trans (grown_below0 (World.grownBy_alloc w2 _ none) HB2.out.size)) _⟩
    ·have eM : ((i : Int) == (M : Int) - 1) = false := by simp; omega
     go_wp2_with fail
     refine (HHALF.out _ HB.out).mono ?_
     rintro e w' ⟨rfl, rfl⟩
     go_wp2_with fail
     refine (HRE.out _ _ HB.out (by omega)).mono ?_
     rintro e w' ⟨rfl, rfl⟩
     go_wp2_with fail
     refine (rpart_x HP.out _).mono ?_
     rintro e w2 ⟨rfl, hb2⟩
     have HB2 := Lib.hid (HB.out.trans (hb2.mono HB.out.size))
     clear hb2
     go_wp2_with fail
     go_roundw
     case rel => exact ⟨i + 1, hiq, fun h => by have := HIM.out h; omega, by go_num, by rw [bs_app, ← HJ.out], by rw [if_neg (by omega)], by rw [if_neg (by omega)], HB2.out.trans (grown_below0 (World.grownBy_alloc w2 _ none) HB2.out.size)⟩
     case measure => simp [intOf]; omega
  ·obtain rfl : i = q := by omega
   cases done with
   | true => exact absurd (HY.out rfl).1 (by have := HIM.out rfl; omega)
   | false =>
    obtain ⟨st, hst⟩ : ∃ x : Nat, x = (if i = 0 then 0 else s) := ⟨_, rfl⟩
    obtain ⟨mt, hmt⟩ : ∃ x : Nat, x = (if i = 0 then 0 else M) := ⟨_, rfl⟩
    rw [← hst, ← hmt]
    have HSM := Lib.hid (And.intro hst hmt)
    clear hst hmt
    by_cases hend : hh - 1 ≤ at0 + i
    ·have hroomd : decide ((at0 : Int) + (i : Int) < (hh : Int) - 1) = false := by simp; omega
     clear hend
     go_wp2_with fail
     go_ret3
     exact ⟨rfl, HB.out⟩
    have hroomd : decide ((at0 : Int) + (i : Int) < (hh : Int) - 1) = true := by simp; omega
    have hE : Ends (D.now (1 * (D.n / 2) + 1 + at0 + i)) c s k M i := (HNO.out rfl).2.resolve_left (by rw [← HHE.out]; exact hend)
    have hTb : TameB (D.now (1 * (D.n / 2) + 1 + at0 + i)) := by
     have := HT.out (at0 + i) (by rw [← HHE.out]; omega)
     rwa [← Nat.add_assoc] at this
    have hre := fun v x hv hx => HREAD.out v x i hv hx (by omega)
    obtain ⟨bi, hbi⟩ : ∃ b, b = D.now (1 * (D.n / 2) + 1 + at0 + i) := ⟨_, rfl⟩
    rw [← hbi] at hE hTb hre
    have HRE := Lib.hid hre
    have HTB := Lib.hid hTb
    clear hre hbi hTb hend
    rcases hE with hNP | ⟨c', s', k', i', n', l', hp, hne⟩
    ·have HNP := Lib.hid hNP
     clear hNP
     go_wp2_with fail
     refine (HHALF.out _ HB.out).mono ?_
     rintro e w' ⟨rfl, rfl⟩
     go_wp2_with fail
     refine (HRE.out _ _ HB.out (by omega)).mono ?_
     rintro e w' ⟨rfl, rfl⟩
     go_wp2_with fail
     refine (rnone_x HTB.out HNP.out _).mono ?_
     rintro e w2 ⟨x0, x1, x2, x3, x4, rfl, hb2⟩
     have HB2 := Lib.hid (HB.out.trans (hb2.mono HB.out.size))
     clear hb2
     go_wp2_with fail
     go_ret3
     exact ⟨rfl, HB2.out.trans (grown_below0 (World.grownBy_alloc w2 _ none) HB2.out.size)⟩
    ·have HP := Lib.hid hp
     clear hp
     by_cases e1 : c' = c
     ·subst e1
      by_cases e2 : k' = k
      ·subst e2
       by_cases e3 : i' = i
       ·subst e3
        have h0 : 0 < i' ∧ (s' ≠ s ∨ n' ≠ M) := by
         rcases hne with h | h | h | h
         ·exact absurd rfl h
         ·exact absurd rfl h
         ·exact absurd rfl h
         ·exact h
        obtain ⟨h0, hsn⟩ := h0
        have hd0 : decide ((0 : Int) < (i' : Int)) = true := by simp; omega
        have hd1 : decide (0 < i') = true := by simp; omega
        have es : st = s := by rw [HSM.out.1, if_neg (by omega)]
        have em : mt = M := by rw [HSM.out.2, if_neg (by omega)]
        rw [es, em]
        clear hne h0 es em
        by_cases e4 : s' = s
        subst e4
        have hn : n' ≠ M := hsn.resolve_left (fun h => h rfl)
        have t1 : ((n' : Int) != (M : Int)) = true := by simp; omega
        have t2 : (n' != M) = true := by simp; omega
        clear hsn hn
        rotate_left
        have t1 : ((s' : Int) != (s : Int)) = true := by simp; omega
        have t2 : (s' != s) = true := by simp; omega
        clear hsn e4
        rotate_left
        all_goals
         go_wp2_with fail
         refine (HHALF.out _ HB.out).mono ?_
         rintro e w' ⟨rfl, rfl⟩
         go_wp2_with fail
         refine (HRE.out _ _ HB.out (by omega)).mono ?_
         rintro e w' ⟨rfl, rfl⟩
         go_wp2_with fail
         refine (rpart_x HP.out _).mono ?_
         rintro e w2 ⟨rfl, hb2⟩
         have HB2 := Lib.hid (HB.out.trans (hb2.mono HB.out.size))
         clear hb2
         go_wp2_with fail
         go_ret3
         exact ⟨rfl, HB2.out.trans (grown_below0 (World.grownBy_alloc w2 _ none) HB2.out.size)⟩
       ·have t1 : ((i' : Int) != (i : Int)) = true := by simp; omega
        have t2 : (i' != i) = true := by simp; omega
        clear e3 hne
        go_wp2_with fail
        refine (HHALF.out _ HB.out).mono ?_
        rintro e w' ⟨rfl, rfl⟩
        go_wp2_with fail
        refine (HRE.out _ _ HB.out (by omega)).mono ?_
        rintro e w' ⟨rfl, rfl⟩
        go_wp2_with fail
        refine (rpart_x HP.out _).mono ?_
        rintro e w2 ⟨rfl, hb2⟩
        have HB2 := Lib.hid (HB.out.trans (hb2.mono HB.out.size))
        clear hb2
        go_wp2_with fail
        go_ret3
        exact ⟨rfl, HB2.out.trans (grown_below0 (World.grownBy_alloc w2 _ none) HB2.out.size)⟩
      ·have t1 : ((k' : Int) != (k : Int)) = true := by simp; omega
       have t2 : (k' != k) = true := by simp; omega
       clear e2 hne
       go_wp2_with fail
       refine (HHALF.out _ HB.out).mono ?_
       rintro e w' ⟨rfl, rfl⟩
       go_wp2_with fail
       refine (HRE.out _ _ HB.out (by omega)).mono ?_
       rintro e w' ⟨rfl, rfl⟩
       go_wp2_with fail
       refine (rpart_x HP.out _).mono ?_
       rintro e w2 ⟨rfl, hb2⟩
       have HB2 := Lib.hid (HB.out.trans (hb2.mono HB.out.size))
       clear hb2
       go_wp2_with fail
       go_ret3
       exact ⟨rfl, HB2.out.trans (grown_below0 (World.grownBy_alloc w2 _ none) HB2.out.size)⟩
     ·have e5 : c'.toNat ≠ c.toNat := fun h => e1 (UInt8.toNat_inj.1 h)
      have t1 : ((c'.toNat : Int) != (c.toNat : Int)) = true := by simp; omega
      have t2 : (c'.toNat != c.toNat) = true := by simp; omega
      have t3 : (c' != c) = true := by simp [e1]
      clear e1 e5 hne
      go_wp2_with fail
      refine (HHALF.out _ HB.out).mono ?_
      rintro e w' ⟨rfl, rfl⟩
      go_wp2_with fail
      refine (HRE.out _ _ HB.out (by omega)).mono ?_
      rintro e w' ⟨rfl, rfl⟩
      go_wp2_with fail
      refine (rpart_x HP.out _).mono ?_
      rintro e w2 ⟨rfl, hb2⟩
      have HB2 := Lib.hid (HB.out.trans (hb2.mono HB.out.size))
      clear hb2
      go_wp2_with fail
      go_ret3
      exact ⟨rfl, HB2.out.trans (grown_below0 (World.grownBy_alloc w2 _ none) HB2.out.size)⟩
theorem rwhole_y0 {S : Nat → Prop} {m : Nat} {D : Dsk} {at0 : Nat} {c : UInt8} {s k M : Nat} {f : Nat → List UInt8} (hw : Wy D.now (0 * (D.n / 2)) (D.n / 2) at0 c k s M f) (w : World) (h : RefAt w S m D) (ho : D.off = false) (hf : Full D) (h4 : 4 ≤ D.n) (ht : Tame D.now (0 * (D.n / 2)) (D.n / 2)) :
  Calls Tryz.prog 94 #[.pointer (some ⟨m, 0, none⟩), .int .i64 0, .int .i64 (at0 : Int), .int .u8 (c.toNat : Int), .int .i64 (k : Int)] w fun e w' => e = .returned (.tuple #[strV (joined f M), .int .i64 (s : Int), .int .i64 (M : Int)]) ∧ Below w.heap.size w w' :=
 rwhole0 S m D at0 c s k M M f true w h ho hf hw.run hw.room h4 ht (fun _ => ⟨rfl, hw.one⟩) (fun h => by cases h)
theorem rwhole_n0 {S : Nat → Prop} {m : Nat} {D : Dsk} {at0 : Nat} {c : UInt8} {k : Nat} (hw : Wn D.now (0 * (D.n / 2)) (D.n / 2) at0 c k) (w : World) (h : RefAt w S m D) (ho : D.off = false) (hf : Full D) (h4 : 4 ≤ D.n) (ht : Tame D.now (0 * (D.n / 2)) (D.n / 2)) :
  Calls Tryz.prog 94 #[.pointer (some ⟨m, 0, none⟩), .int .i64 0, .int .i64 (at0 : Int), .int .u8 (c.toNat : Int), .int .i64 (k : Int)] w fun e w' => e = .returned (.tuple #[strV [], .int .i64 0, .int .i64 0]) ∧ Below w.heap.size w w' := by
 obtain ⟨s, M, q, f, h1, h2, h3, h5⟩ := hw
 exact rwhole0 S m D at0 c s k M q f false w h ho hf h1 h3 h4 ht (fun h => by cases h) (fun _ => ⟨h2, h5⟩)
theorem rwhole_y1 {S : Nat → Prop} {m : Nat} {D : Dsk} {at0 : Nat} {c : UInt8} {s k M : Nat} {f : Nat → List UInt8} (hw : Wy D.now (1 * (D.n / 2)) (D.n / 2) at0 c k s M f) (w : World) (h : RefAt w S m D) (ho : D.off = false) (hf : Full D) (h4 : 4 ≤ D.n) (ht : Tame D.now (1 * (D.n / 2)) (D.n / 2)) :
  Calls Tryz.prog 94 #[.pointer (some ⟨m, 0, none⟩), .int .i64 1, .int .i64 (at0 : Int), .int .u8 (c.toNat : Int), .int .i64 (k : Int)] w fun e w' => e = .returned (.tuple #[strV (joined f M), .int .i64 (s : Int), .int .i64 (M : Int)]) ∧ Below w.heap.size w w' :=
 rwhole1 S m D at0 c s k M M f true w h ho hf hw.run hw.room h4 ht (fun _ => ⟨rfl, hw.one⟩) (fun h => by cases h)
theorem rwhole_n1 {S : Nat → Prop} {m : Nat} {D : Dsk} {at0 : Nat} {c : UInt8} {k : Nat} (hw : Wn D.now (1 * (D.n / 2)) (D.n / 2) at0 c k) (w : World) (h : RefAt w S m D) (ho : D.off = false) (hf : Full D) (h4 : 4 ≤ D.n) (ht : Tame D.now (1 * (D.n / 2)) (D.n / 2)) :
  Calls Tryz.prog 94 #[.pointer (some ⟨m, 0, none⟩), .int .i64 1, .int .i64 (at0 : Int), .int .u8 (c.toNat : Int), .int .i64 (k : Int)] w fun e w' => e = .returned (.tuple #[strV [], .int .i64 0, .int .i64 0]) ∧ Below w.heap.size w w' := by
 obtain ⟨s, M, q, f, h1, h2, h3, h5⟩ := hw
 exact rwhole1 S m D at0 c s k M q f false w h ho hf h1 h3 h4 ht (fun h => by cases h) (fun _ => ⟨h2, h5⟩)
def RJC (m : Nat) (J : Jn) (lv : Value) (br : Nat) : Array Value := #[.pointer (some ⟨m, 0, none⟩), .int .i64 (J.area : Int), .int .i64 (J.gen : Int), .int .i64 (J.op : Int), .int .i64 (J.first : Int), strV J.st, lv, .int .i64 (J.used : Int), .int .i64 (br : Int)]
def RJBlk (w : World) (rb m : Nat) (J : Jn) (lv : Value) (br : Nat) : Prop := w.heap[rb]? = some (.cells (RJC m J lv br) 101)
def recV (J : Jn) : List Value := J.recs.map strV
theorem recV_length (J : Jn) : (recV J).length = J.recs.length := by simp [recV]
structure RJIn (w : World) (T : Nat → Prop) (rb m : Nat) (J : Jn) (lv : Value) (br : Nat) : Prop where
 blk : RJBlk w rb m J lv br
 row : StrRow w 0 lv (recV J)
 own : T rb ∧ ∀ g, lv.ownBlock = some g → T g
 lt : ∀ b, T b → b < w.heap.size
def RJAt (w : World) (T : Nat → Prop) (rb m : Nat) (J : Jn) (br : Nat) : Prop := ∃ lv, RJIn w T rb m J lv br
section
variable {w w' : World} {T U : Nat → Prop} {rb m br : Nat} {J : Jn} {lv : Value}
theorem RJIn.off (h : RJIn w T rb m J lv br) (ho : Off U w w') (hTU : ∀ b, T b → ¬ U b) : RJIn w' T rb m J lv br :=
 ⟨(ho.block rb (h.lt _ h.own.1) (hTU _ h.own.1)).trans h.blk, Sec.row_off h.row ho (fun g hg => hTU g (h.own.2 g hg)), h.own, fun b hb => Nat.lt_of_lt_of_le (h.lt b hb) ho.size⟩
theorem RJAt.off (h : RJAt w T rb m J br) (ho : Off U w w') (hTU : ∀ b, T b → ¬ U b) : RJAt w' T rb m J br := by
 obtain ⟨lv, h⟩ := h
 exact ⟨lv, h.off ho hTU⟩
theorem RJBlk.cell (h : RJBlk w rb m J lv br) (j : Nat) : w.cell? ⟨rb, j, none⟩ = (RJC m J lv br)[j]? := cell_blk h j
end
theorem rnext_blk (rb m : Nat) (J : Jn) (lv : Value) (br : Nat) (w : World) (h : RJBlk w rb m J lv br) (hr : StrRow w 0 lv (recV J)) (hn : J.first + J.recs.length < 9223372036854775808) :
  Calls Tryz.prog 70 #[.pointer (some ⟨rb, 0, none⟩)] w fun e w' => e = .returned (.int .i64 ((J.first + J.recs.length : Nat) : Int)) ∧ ∃ k, w' = w.drewN k := by
 obtain ⟨A, cap, hlv, hc1, hc2⟩ := row_len hr
 rw [recV_length] at hlv hc1
 subst hlv
 have c4 : w.cell? ⟨rb, 4, none⟩ = some (.int .i64 (J.first : Int)) := h.cell 4
 have c6 : w.cell? ⟨rb, 6, none⟩ = some (.slice A J.recs.length cap) := h.cell 6
 obtain ⟨fi, hfi⟩ : ∃ x, x = J.first := ⟨_, rfl⟩
 obtain ⟨rl, hrl⟩ : ∃ x, x = J.recs.length := ⟨_, rfl⟩
 rw [← hfi, ← hrl] at hn ⊢
 rw [← hfi] at c4
 rw [← hrl] at c6 hc1
 have h1 : (0 : Int) ≤ (fi : Int) + (rl : Int) := by omega
 have h2 : (fi : Int) + (rl : Int) ≤ 9223372036854775807 := by omega
 clear h hr hfi hrl
 go_enter Tryz.func70, Tryz.ntmps70
 go_wp2_with fail
 go_quiet (fail)
 go_wp2_with fail
 go_ret
 exact ⟨by rw [Int.natCast_add]; rfl, nq, rfl⟩
theorem rfree_blk (rb m : Nat) (S : Nat → Prop) (D : Dsk) (J : Jn) (lv : Value) (br : Nat) (w : World) (hd : RefAt w S m D) (h : RJBlk w rb m J lv br) (hu : J.used ≤ D.n / 2 - 1) (h4 : 4 ≤ D.n) :
  Calls Tryz.prog 71 #[.pointer (some ⟨rb, 0, none⟩)] w fun e w' => e = .returned (.int .i64 ((D.n / 2 - 1 - J.used : Nat) : Int)) ∧ ∃ k, w' = w.drewN k := by
 have c0 : w.cell? ⟨rb, 0, none⟩ = some (.pointer (some ⟨m, 0, none⟩)) := h.cell 0
 have c7 : w.cell? ⟨rb, 7, none⟩ = some (.int .i64 (J.used : Int)) := h.cell 7
 obtain ⟨hh, hhe⟩ : ∃ x, x = D.n / 2 := ⟨_, rfl⟩
 have hn := hd.1
 have HHALF : Hid (∀ k, Calls Tryz.prog 92 #[.pointer (some ⟨m, 0, none⟩)] (w.drewN k) fun e w' => e = .returned (.int .i64 (hh : Int)) ∧ w' = w.drewN k) := fun k => by
  rw [hhe]
  exact (rhalf_at S m D (w.drewN k) (hd.grown ⟨rfl, rfl, rfl, Nat.le_refl _, fun _ _ _ => rfl⟩)).mono fun _ _ ⟨h1, h2⟩ => ⟨h1, h2.symm⟩
 obtain ⟨us, hus⟩ : ∃ x, x = J.used := ⟨_, rfl⟩
 rw [← hhe, ← hus] at hu ⊢
 rw [← hus] at c7
 have hs1 : IntKind.i64.wrap ((hh : Int) - 1) = (hh : Int) - 1 := by rw [IntKind.wrap_i64]; omega
 have hs2 : IntKind.i64.wrap ((hh : Int) - 1 - (us : Int)) = (hh : Int) - 1 - (us : Int) := by rw [IntKind.wrap_i64]; omega
 have HE : Hid ((hh : Int) - 1 - (us : Int) = ((hh - 1 - us : Nat) : Int)) := by show _ = _; omega
 clear h hd hhe hus hn h4 hu
 go_enter Tryz.func71, Tryz.ntmps71
 go_wp2_with fail
 go_quiet ((go_at_call 92; exact Calls.quiet_of_same (HHALF.out _)))
 go_wp2_with fail
 go_ret
 exact ⟨by rw [← HE.out]; rfl, nq, rfl⟩
theorem made_128 : madeCells #[.int .u8 0] 128 = (u8s (List.replicate 128 0)).toArray := by kernel_rfl
theorem wpList_make_128 {ops : Array Oper} {rest : List Oper} {op : Oper} {a : Act} {w : World} {Q : Exit → Act → World → Prop} (hgd : op.guard = none) (ho : op.op = .makeSlice 28 (.const (.int .i64 128)) (.const (.int .i64 128)))
  (h : ∀ w', Hid (w' = w.alloc (.cells (u8s (List.replicate 128 0)).toArray 5)) → wpList Tryz.prog ops Q rest (a.put op.dst (.slice (some ⟨w.heap.size, 0, none⟩) 128 128)) w') : wpList Tryz.prog ops Q (op :: rest) a w := by
 refine wpList_plain hgd fun K hK => ?_
 have hrun := run_make_row' (P := Tryz.prog) 28 5 (.int .u8 0) 1 Tryz.underlying28 info_u8 rfl .i64 .i64 128 (by decide) (by decide) w
 rw [made_128] at hrun
 unfold Oper.wp execOp
 have hrun' : (Instr.makeSlice 28 (.int .i64 128) (.int .i64 128)).run Tryz.prog w = .ok (.slice (some ⟨w.heap.size, 0, none⟩) 128 128) (w.alloc (.cells (u8s (List.replicate 128 0)).toArray 5)) := hrun
 simp only [ho, Act.eval, Sem.run_bind, hrun', Result.andThen_ok]
 exact hK _ _ (h _ rfl)
theorem bs_eqd (a b : List UInt8) : ((bs a).toList == (bs b).toList) = decide (a = b) := by
 rw [bs_toList, bs_toList]
 by_cases h : a = b <;> simp [h]
theorem rempty_at (S : Nat → Prop) (m : Nat) (D : Dsk) (a : Nat) (w : World) (h : RefAt w S m D) (ho : D.off = false) (hf : Full D) (ha : a ≤ 1) (h4 : 4 ≤ D.n) (hl : (D.now (a * (D.n / 2))).length = 128) :
  Calls Tryz.prog 67 #[.pointer (some ⟨m, 0, none⟩), .int .i64 (a : Int)] w fun e w' => e = .returned (.bool (decide (D.now (a * (D.n / 2)) = noughts))) ∧ Below w.heap.size w w' := by
 have hn := h.1
 have HHALF := Lib.hid (rhalf_at S m D w h)
 obtain ⟨bi, hbi⟩ : ∃ b, b = D.now (a * (D.n / 2)) := ⟨_, rfl⟩
 have hre : ∀ x, x = (a : Int) * ((D.n / 2 : Nat) : Int) → Calls Tryz.prog 69 #[.pointer (some ⟨m, 0, none⟩), .int .i64 x] w fun e w' => e = .returned (.tuple #[strV bi, .int .i64 0]) ∧ w = w' := fun x hx => by
  rw [hbi]
  exact rread_t S m x _ D w h (by rw [hx, Int.natCast_mul]) (area_lt ha h4) ho hf
 rw [← hbi] at hl ⊢
 have HRE := Lib.hid hre
 have HL := Lib.hid hl
 obtain ⟨hh, hhe⟩ : ∃ x, x = D.n / 2 := ⟨_, rfl⟩
 rw [← hhe] at HRE HHALF
 have hhn : hh ≤ 8192 := by omega
 clear h ho hf hre hl hhe hbi h4
 go_enter Tryz.func67, Tryz.ntmps67
 go_wp2_with fail
 refine (HHALF.out).mono ?_
 rintro e w' ⟨rfl, rfl⟩
 rcases (show a = 0 ∨ a = 1 by omega) with rfl | rfl
 rotate_left
 rotate_left
 all_goals
  go_wp2_with fail
  refine (HRE.out _ (by simp)).mono ?_
  rintro e w' ⟨rfl, rfl⟩
  go_wp2_with (first
   | (at_make; refine wpList_make_128 rfl rfl ?_; intro wn Hn; have hcv := run_string wn w.heap.size 0 noughts 128 (by rw [Hn.out]; exact range_blk (MapKept.heap_alloc w _).1 rfl); rw [noughts_length] at hcv; have HBN : Hid (Below w.heap.size w wn) := (by rw [Hn.out]; exact grown_below0 (World.grownBy_alloc w _ none) (Nat.le_refl _)); clear Hn; go_frame)
   | fail)
  go_ret
  refine ⟨?_, HBN.out⟩
  show Ending.returned (.bool ((bs bi).toList == (bs noughts).toList)) = _
  rw [bs_eqd]
end Go.Proofs.YtgdedgfohjplmaaGreat.Jnl
