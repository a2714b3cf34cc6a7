import Derived.Test.YtmapfhhdmgmnpaaGreatProg
import Derived.Test.YtmapfhhdmgmnpaaGreatK06
namespace Go.Ev
open Go Go.Proofs Tryz
set_option maxRecDepth 100000
theorem mixed : prog.follows .mixedOrders = true := by kernel_rfl
theorem nogor : (prog.funcs.all fun fn => fn.body.isNone || fn.name != "runtime.NumGoroutine") = true := by kernel_rfl
theorem cfgOK : CfgOK prog cfg0 := cfg0_ok fun f fn hf hb e => by
  have h := nogor
  rw [Array.all_eq_true_iff_forall_mem] at h
  have := h fn (Array.mem_of_getElem? hf)
  rw [e] at this
  cases hb2 : fn.body with
  | none => rw [hb2] at hb; cases hb
  | some b => rw [hb2] at this; simp at this
theorem fld_of {P : Program} {t f s o ty : Nat} {fields : Array Field} (h1 : P.underlying t = some (.struct fields)) (h3 : szof P ty = some (s + 1)) (x : Value) (h2 : (fields[f]?).map (fun fd => (fd.offset, fd.type)) = some (o, ty)) : afieldAt P t x f = ptrAdd x o := by
  obtain ⟨fd, h4, h5⟩ := Option.map_eq_some_iff.1 h2
  simp only [Prod.mk.injEq] at h5
  obtain ⟨rfl, rfl⟩ := h5
  unfold afieldAt; rw [h1]; simp only; rw [h4]; simp only; rw [h3]; simp
theorem sz3 : szof prog 3 = some 1 := by kernel_rfl
theorem ag3 : isag prog 3 = some false := by kernel_rfl
theorem sz4 : szof prog 4 = some 1 := by kernel_rfl
theorem ag4 : isag prog 4 = some false := by kernel_rfl
theorem sz5 : szof prog 5 = some 1 := by kernel_rfl
theorem ag5 : isag prog 5 = some false := by kernel_rfl
theorem sz9 : szof prog 9 = some 1 := by kernel_rfl
theorem ag9 : isag prog 9 = some false := by kernel_rfl
theorem sz22 : szof prog 22 = some 1 := by kernel_rfl
theorem ag22 : isag prog 22 = some false := by kernel_rfl
theorem sz23 : szof prog 23 = some 1 := by kernel_rfl
theorem ag23 : isag prog 23 = some false := by kernel_rfl
theorem sz24 : szof prog 24 = some 1 := by kernel_rfl
theorem ag24 : isag prog 24 = some false := by kernel_rfl
theorem sz26 : szof prog 26 = some 6 := by kernel_rfl
theorem ag26 : isag prog 26 = some true := by kernel_rfl
theorem sz27 : szof prog 27 = some 1 := by kernel_rfl
theorem ag27 : isag prog 27 = some false := by kernel_rfl
theorem sz31 : szof prog 31 = some 1 := by kernel_rfl
theorem ag31 : isag prog 31 = some false := by kernel_rfl
theorem sz41 : szof prog 41 = some 1 := by kernel_rfl
theorem ag41 : isag prog 41 = some false := by kernel_rfl
theorem sz61 : szof prog 61 = some 2 := by kernel_rfl
theorem ag61 : isag prog 61 = some true := by kernel_rfl
theorem sz64 : szof prog 64 = some 1 := by kernel_rfl
theorem ag64 : isag prog 64 = some false := by kernel_rfl
theorem sz65 : szof prog 65 = some 1 := by kernel_rfl
theorem ag65 : isag prog 65 = some false := by kernel_rfl
theorem sz67 : szof prog 67 = some 11 := by kernel_rfl
theorem ag67 : isag prog 67 = some true := by kernel_rfl
theorem sz104 : szof prog 104 = some 3 := by kernel_rfl
theorem ag104 : isag prog 104 = some true := by kernel_rfl
theorem sz239 : szof prog 239 = some 2 := by kernel_rfl
theorem ag239 : isag prog 239 = some true := by kernel_rfl
theorem sz298 : szof prog 298 = some 1 := by kernel_rfl
theorem ag298 : isag prog 298 = some false := by kernel_rfl
theorem sz327 : szof prog 327 = some 6 := by kernel_rfl
theorem ag327 : isag prog 327 = some true := by kernel_rfl
theorem sz330 : szof prog 330 = some 1 := by kernel_rfl
theorem ag330 : isag prog 330 = some false := by kernel_rfl
theorem sz334 : szof prog 334 = some 1 := by kernel_rfl
theorem ag334 : isag prog 334 = some false := by kernel_rfl
theorem fa26_0 {x : Value} : afieldAt prog 26 x 0 = ptrAdd x 0 := fld_of underlying26 sz22 x (by kernel_rfl)
theorem fa26_1 {x : Value} : afieldAt prog 26 x 1 = ptrAdd x 1 := fld_of underlying26 sz4 x (by kernel_rfl)
theorem fa26_2 {x : Value} : afieldAt prog 26 x 2 = ptrAdd x 2 := fld_of underlying26 sz9 x (by kernel_rfl)
theorem fa26_3 {x : Value} : afieldAt prog 26 x 3 = ptrAdd x 3 := fld_of underlying26 sz23 x (by kernel_rfl)
theorem fa26_4 {x : Value} : afieldAt prog 26 x 4 = ptrAdd x 4 := fld_of underlying26 sz9 x (by kernel_rfl)
theorem fa26_5 {x : Value} : afieldAt prog 26 x 5 = ptrAdd x 5 := fld_of underlying26 sz24 x (by kernel_rfl)
theorem fa61_0 {x : Value} : afieldAt prog 61 x 0 = ptrAdd x 0 := fld_of underlying61 sz9 x (by kernel_rfl)
theorem fa61_1 {x : Value} : afieldAt prog 61 x 1 = ptrAdd x 1 := fld_of underlying61 sz9 x (by kernel_rfl)
theorem fa67_0 {x : Value} : afieldAt prog 67 x 0 = ptrAdd x 0 := fld_of underlying67 sz5 x (by kernel_rfl)
theorem fa67_1 {x : Value} : afieldAt prog 67 x 1 = ptrAdd x 1 := fld_of underlying67 sz64 x (by kernel_rfl)
theorem fa67_2 {x : Value} : afieldAt prog 67 x 2 = ptrAdd x 2 := fld_of underlying67 sz3 x (by kernel_rfl)
theorem fa67_3 {x : Value} : afieldAt prog 67 x 3 = ptrAdd x 3 := fld_of underlying67 sz64 x (by kernel_rfl)
theorem fa67_4 {x : Value} : afieldAt prog 67 x 4 = ptrAdd x 4 := fld_of underlying67 sz22 x (by kernel_rfl)
theorem fa67_5 {x : Value} : afieldAt prog 67 x 5 = ptrAdd x 5 := fld_of underlying67 sz4 x (by kernel_rfl)
theorem fa67_6 {x : Value} : afieldAt prog 67 x 6 = ptrAdd x 6 := fld_of underlying67 sz9 x (by kernel_rfl)
theorem fa67_7 {x : Value} : afieldAt prog 67 x 7 = ptrAdd x 7 := fld_of underlying67 sz9 x (by kernel_rfl)
theorem fa67_8 {x : Value} : afieldAt prog 67 x 8 = ptrAdd x 8 := fld_of underlying67 sz9 x (by kernel_rfl)
theorem fa67_9 {x : Value} : afieldAt prog 67 x 9 = ptrAdd x 9 := fld_of underlying67 sz4 x (by kernel_rfl)
theorem fa67_10 {x : Value} : afieldAt prog 67 x 10 = ptrAdd x 10 := fld_of underlying67 sz65 x (by kernel_rfl)
theorem fa104_0 {x : Value} : afieldAt prog 104 x 0 = ptrAdd x 0 := fld_of underlying104 sz3 x (by kernel_rfl)
theorem fa104_1 {x : Value} : afieldAt prog 104 x 1 = ptrAdd x 1 := fld_of underlying104 sz3 x (by kernel_rfl)
theorem fa104_2 {x : Value} : afieldAt prog 104 x 2 = ptrAdd x 2 := fld_of underlying104 sz9 x (by kernel_rfl)
theorem fa239_0 {x : Value} : afieldAt prog 239 x 0 = ptrAdd x 0 := fld_of underlying239 sz65 x (by kernel_rfl)
theorem fa239_1 {x : Value} : afieldAt prog 239 x 1 = ptrAdd x 1 := fld_of underlying239 sz3 x (by kernel_rfl)
theorem fa327_0 {x : Value} : afieldAt prog 327 x 0 = ptrAdd x 0 := fld_of underlying327 sz4 x (by kernel_rfl)
theorem fa327_1 {x : Value} : afieldAt prog 327 x 1 = ptrAdd x 1 := fld_of underlying327 sz4 x (by kernel_rfl)
theorem fa327_2 {x : Value} : afieldAt prog 327 x 2 = ptrAdd x 2 := fld_of underlying327 sz64 x (by kernel_rfl)
theorem fa327_3 {x : Value} : afieldAt prog 327 x 3 = ptrAdd x 3 := fld_of underlying327 sz64 x (by kernel_rfl)
theorem fa327_4 {x : Value} : afieldAt prog 327 x 4 = ptrAdd x 4 := fld_of underlying327 sz3 x (by kernel_rfl)
theorem fa327_5 {x : Value} : afieldAt prog 327 x 5 = ptrAdd x 5 := fld_of underlying327 sz3 x (by kernel_rfl)
theorem zr67 : zeroOf prog 67 = some (.agg #[.int .u8 0, .slice none 0 0, .int .i64 0, .slice none 0 0, .int .u64 0, .bool false, .string ⟨#[]⟩, .string ⟨#[]⟩, .string ⟨#[]⟩, .bool false, .slice none 0 0]) := by kernel_rfl
theorem zr26 : zeroOf prog 26 = some (.agg #[.int .u64 0, .bool false, .string ⟨#[]⟩, .slice none 0 0, .string ⟨#[]⟩, .slice none 0 0]) := by kernel_rfl
theorem zr104 : zeroOf prog 104 = some (.agg #[.int .i64 0, .int .i64 0, .string ⟨#[]⟩]) := by kernel_rfl
theorem zr61 : zeroOf prog 61 = some (.agg #[.string ⟨#[]⟩, .string ⟨#[]⟩]) := by kernel_rfl
theorem zr239 : zeroOf prog 239 = some (.agg #[.slice none 0 0, .int .i64 0]) := by kernel_rfl
theorem zr327 : zeroOf prog 327 = some (.agg #[.bool false, .bool false, .slice none 0 0, .slice none 0 0, .int .i64 0, .int .i64 0]) := by kernel_rfl
theorem zr330 : zeroOf prog 330 = some (.slice none 0 0) := by kernel_rfl
theorem zr3 : zeroOf prog 3 = some (.int .i64 0) := by kernel_rfl
theorem zr27 : zeroOf prog 27 = some (.slice none 0 0) := by kernel_rfl
theorem bz26 : abuild prog 26 [] = some (.agg #[.int .u64 0, .bool false, .string ⟨#[]⟩, .slice none 0 0, .string ⟨#[]⟩, .slice none 0 0]) := by kernel_rfl
theorem bz67 : abuild prog 67 [] = some (.agg #[.int .u8 0, .slice none 0 0, .int .i64 0, .slice none 0 0, .int .u64 0, .bool false, .string ⟨#[]⟩, .string ⟨#[]⟩, .string ⟨#[]⟩, .bool false, .slice none 0 0]) := by kernel_rfl
theorem b26_3 {n : Int} {b : Bool} {s : ByteArray} : abuild prog 26 [(0, .int .u64 n), (1, .bool b), (2, .string s)] = some (.agg #[.int .u64 n, .bool b, .string s, .slice none 0 0, .string ⟨#[]⟩, .slice none 0 0]) := by kernel_rfl
theorem b61_2 {a b : ByteArray} : abuild prog 61 [(0, .string a), (1, .string b)] = some (.agg #[.string a, .string b]) := by kernel_rfl
theorem b67_2 {k : Int} {a : Option Addr} {n c : Nat} : abuild prog 67 [(0, .int .u8 k), (1, .slice a n c)] = some (.agg #[.int .u8 k, .slice a n c, .int .i64 0, .slice none 0 0, .int .u64 0, .bool false, .string ⟨#[]⟩, .string ⟨#[]⟩, .string ⟨#[]⟩, .bool false, .slice none 0 0]) := by kernel_rfl
theorem b67_2f {k : Int} {n : Nat} {l : List Value} : abuild prog 67 [(0, .int .u8 k), (1, frow n l)] = some (.agg #[.int .u8 k, frow n l, .int .i64 0, .slice none 0 0, .int .u64 0, .bool false, .string ⟨#[]⟩, .string ⟨#[]⟩, .string ⟨#[]⟩, .bool false, .slice none 0 0]) := by kernel_rfl
theorem iz64 : isZeros prog (some 64) = some false := by kernel_rfl
theorem iz27 : isZeros prog (some 27) = some false := by kernel_rfl
theorem iz65 : isZeros prog (some 65) = some false := by kernel_rfl
theorem iz24 : isZeros prog (some 24) = some false := by kernel_rfl
theorem iz23 : isZeros prog (some 23) = some false := by kernel_rfl
theorem iz3 : isZeros prog (some 3) = some true := by kernel_rfl
theorem app64 {l : List AB} {v x : Value} {n m : Nat} {cs new : List Value} (ho : Own 3 1 l v n cs) (hn : News prog l 3 1 false x new m) (hl : l.length + 2 < 16777216) (hb : n + m ≤ 16777216) :
    ∃ v' l', aappend prog (mk l) #[64, 64] [v, x] = some (v', mk l') ∧ Own 3 1 l' v' (n + m) (cs ++ new) ∧ l.length ≤ l'.length ∧ l'.length ≤ l.length + 1 ∧
      (∀ b, b < l.length → ownB v ≠ some b → l'[b]? = l[b]?) ∧ ∀ b, ownB v' = some b → b < l'.length ∧ (l.length ≤ b ∨ ownB v = some b) :=
  append_own (i := t3) (by rfl) underlying64 iz64 type3 zr3 (by kernel_rfl) (by decide) (by decide) hl ho hn hb
theorem one64 {l : List AB} {v : Value} (h : v.cells.toList.length = 1) (hl : l.length + 2 < 16777216) : abuildSlice prog (mk l) 64 1 [(0, v)] = some (.slice (some ⟨l.length, 0, none⟩) 1 1, mk (l ++ [.cells v.cells.toList 3 (0, 0)])) := buildSlice_one underlying64 sz3 zr3 h (by decide) hl
theorem non64 {l : List AB} (hl : l.length + 2 < 16777216) : abuildSlice prog (mk l) 64 0 [] = some (.slice (some ⟨l.length, 0, none⟩) 0 0, mk (l ++ [.cells [] 3 (0, 0)])) := buildSlice_none underlying64 sz3 zr3 hl
theorem app65 {l : List AB} {v x : Value} {n m : Nat} {cs new : List Value} (ho : Own 104 3 l v n cs) (hn : News prog l 104 3 false x new m) (hl : l.length + 2 < 16777216) (hb : n + m ≤ 16777216) :
    ∃ v' l', aappend prog (mk l) #[65, 65] [v, x] = some (v', mk l') ∧ Own 104 3 l' v' (n + m) (cs ++ new) ∧ l.length ≤ l'.length ∧ l'.length ≤ l.length + 1 ∧
      (∀ b, b < l.length → ownB v ≠ some b → l'[b]? = l[b]?) ∧ ∀ b, ownB v' = some b → b < l'.length ∧ (l.length ≤ b ∨ ownB v = some b) :=
  append_own (i := t104) (by rfl) underlying65 iz65 type104 zr104 (by kernel_rfl) (by decide) (by decide) hl ho hn hb
theorem one65 {l : List AB} {v : Value} (h : v.cells.toList.length = 3) (hl : l.length + 2 < 16777216) : abuildSlice prog (mk l) 65 1 [(0, v)] = some (.slice (some ⟨l.length, 0, none⟩) 1 1, mk (l ++ [.cells v.cells.toList 104 (0, 0)])) := buildSlice_one underlying65 sz104 zr104 h (by decide) hl
theorem non65 {l : List AB} (hl : l.length + 2 < 16777216) : abuildSlice prog (mk l) 65 0 [] = some (.slice (some ⟨l.length, 0, none⟩) 0 0, mk (l ++ [.cells [] 104 (0, 0)])) := buildSlice_none underlying65 sz104 zr104 hl
theorem app27 {l : List AB} {v x : Value} {n m : Nat} {cs new : List Value} (ho : Own 67 11 l v n cs) (hn : News prog l 67 11 false x new m) (hl : l.length + 2 < 16777216) (hb : n + m ≤ 16777216) :
    ∃ v' l', aappend prog (mk l) #[27, 27] [v, x] = some (v', mk l') ∧ Own 67 11 l' v' (n + m) (cs ++ new) ∧ l.length ≤ l'.length ∧ l'.length ≤ l.length + 1 ∧
      (∀ b, b < l.length → ownB v ≠ some b → l'[b]? = l[b]?) ∧ ∀ b, ownB v' = some b → b < l'.length ∧ (l.length ≤ b ∨ ownB v = some b) :=
  append_own (i := t67) (by rfl) underlying27 iz27 type67 zr67 (by kernel_rfl) (by decide) (by decide) hl ho hn hb
theorem one27 {l : List AB} {v : Value} (h : v.cells.toList.length = 11) (hl : l.length + 2 < 16777216) : abuildSlice prog (mk l) 27 1 [(0, v)] = some (.slice (some ⟨l.length, 0, none⟩) 1 1, mk (l ++ [.cells v.cells.toList 67 (0, 0)])) := buildSlice_one underlying27 sz67 zr67 h (by decide) hl
theorem non27 {l : List AB} (hl : l.length + 2 < 16777216) : abuildSlice prog (mk l) 27 0 [] = some (.slice (some ⟨l.length, 0, none⟩) 0 0, mk (l ++ [.cells [] 67 (0, 0)])) := buildSlice_none underlying27 sz67 zr67 hl
theorem app24 {l : List AB} {v x : Value} {n m : Nat} {cs new : List Value} (ho : Own 26 6 l v n cs) (hn : News prog l 26 6 false x new m) (hl : l.length + 2 < 16777216) (hb : n + m ≤ 16777216) :
    ∃ v' l', aappend prog (mk l) #[24, 24] [v, x] = some (v', mk l') ∧ Own 26 6 l' v' (n + m) (cs ++ new) ∧ l.length ≤ l'.length ∧ l'.length ≤ l.length + 1 ∧
      (∀ b, b < l.length → ownB v ≠ some b → l'[b]? = l[b]?) ∧ ∀ b, ownB v' = some b → b < l'.length ∧ (l.length ≤ b ∨ ownB v = some b) :=
  append_own (i := t26) (by rfl) underlying24 iz24 type26 zr26 (by kernel_rfl) (by decide) (by decide) hl ho hn hb
theorem one24 {l : List AB} {v : Value} (h : v.cells.toList.length = 6) (hl : l.length + 2 < 16777216) : abuildSlice prog (mk l) 24 1 [(0, v)] = some (.slice (some ⟨l.length, 0, none⟩) 1 1, mk (l ++ [.cells v.cells.toList 26 (0, 0)])) := buildSlice_one underlying24 sz26 zr26 h (by decide) hl
theorem non24 {l : List AB} (hl : l.length + 2 < 16777216) : abuildSlice prog (mk l) 24 0 [] = some (.slice (some ⟨l.length, 0, none⟩) 0 0, mk (l ++ [.cells [] 26 (0, 0)])) := buildSlice_none underlying24 sz26 zr26 hl
theorem app23 {l : List AB} {v x : Value} {n m : Nat} {cs new : List Value} (ho : Own 61 2 l v n cs) (hn : News prog l 61 2 false x new m) (hl : l.length + 2 < 16777216) (hb : n + m ≤ 16777216) :
    ∃ v' l', aappend prog (mk l) #[23, 23] [v, x] = some (v', mk l') ∧ Own 61 2 l' v' (n + m) (cs ++ new) ∧ l.length ≤ l'.length ∧ l'.length ≤ l.length + 1 ∧
      (∀ b, b < l.length → ownB v ≠ some b → l'[b]? = l[b]?) ∧ ∀ b, ownB v' = some b → b < l'.length ∧ (l.length ≤ b ∨ ownB v = some b) :=
  append_own (i := t61) (by rfl) underlying23 iz23 type61 zr61 (by kernel_rfl) (by decide) (by decide) hl ho hn hb
theorem one23 {l : List AB} {v : Value} (h : v.cells.toList.length = 2) (hl : l.length + 2 < 16777216) : abuildSlice prog (mk l) 23 1 [(0, v)] = some (.slice (some ⟨l.length, 0, none⟩) 1 1, mk (l ++ [.cells v.cells.toList 61 (0, 0)])) := buildSlice_one underlying23 sz61 zr61 h (by decide) hl
theorem non23 {l : List AB} (hl : l.length + 2 < 16777216) : abuildSlice prog (mk l) 23 0 [] = some (.slice (some ⟨l.length, 0, none⟩) 0 0, mk (l ++ [.cells [] 61 (0, 0)])) := buildSlice_none underlying23 sz61 zr61 hl
theorem one41 {l : List AB} {v : Value} (h : v.cells.toList.length = 1) (hl : l.length + 2 < 16777216) : abuildSlice prog (mk l) 41 1 [(0, v)] = some (.slice (some ⟨l.length, 0, none⟩) 1 1, mk (l ++ [.cells v.cells.toList 27 (0, 0)])) := buildSlice_one underlying41 sz27 zr27 h (by decide) hl
theorem non41 {l : List AB} (hl : l.length + 2 < 16777216) : abuildSlice prog (mk l) 41 0 [] = some (.slice (some ⟨l.length, 0, none⟩) 0 0, mk (l ++ [.cells [] 27 (0, 0)])) := buildSlice_none underlying41 sz27 zr27 hl
theorem beq_bs {a b : TP.Str} : (bs a == bs b) = decide (a = b) := by
  show ((bs a).data == (bs b).data) = _
  rw [Bool.eq_iff_iff, beq_iff_eq, decide_eq_true_iff]
  exact ⟨fun h => by simpa [bs] using h, fun h => by rw [h]⟩
theorem held61 : prog.stoodInHeld 61 = false ∧ prog.eqGuardType prog.depth 61 = false := ⟨by kernel_rfl, by kernel_rfl⟩
theorem held104 : prog.stoodInHeld 104 = false ∧ prog.eqGuardType prog.depth 104 = false := ⟨by kernel_rfl, by kernel_rfl⟩
theorem beq_dec {a b : Int} : (a == b) = decide (a = b) := by rw [Bool.eq_iff_iff]; simp
theorem aBin_attr {a b c d : TP.Str} : aBin prog .neq 61 (.agg #[.string (bs a), .string (bs b)]) (.agg #[.string (bs c), .string (bs d)]) = some (.bool !decide (a = c ∧ b = d)) := by
  have h : aeqSt prog .neq 61 (.agg #[.string (bs a), .string (bs b)]) (.agg #[.string (bs c), .string (bs d)]) = some (.bool !decide (a = c ∧ b = d)) := by
    unfold aeqSt
    simp only [negOf, underlying61, sameFields, ag9, underlying9, List.getElem?_toArray, List.getElem?_cons_zero, List.getElem?_cons_succ, Instr.sameNow, beq_bs, ne_eq, String.reduceEq, not_false_eq_true, if_true, Bool.and_true, held61.1, held61.2]
    simp [bare, vok, Bool.decide_and]
  unfold aBin
  have h1 : abin prog .neq 61 (.agg #[.string (bs a), .string (bs b)]) (.agg #[.string (bs c), .string (bs d)]) = none := rfl
  have h2 : aeq prog .neq 61 (.agg #[.string (bs a), .string (bs b)]) (.agg #[.string (bs c), .string (bs d)]) = none := rfl
  have h3 : aeqArr prog .neq 61 (.agg #[.string (bs a), .string (bs b)]) (.agg #[.string (bs c), .string (bs d)]) = none := by unfold aeqArr; rw [underlying61]; rfl
  have h4 : aeqRow prog .neq 61 (.agg #[.string (bs a), .string (bs b)]) (.agg #[.string (bs c), .string (bs d)]) = none := rfl
  rw [h1, h2, h3, h4, h]
theorem aBin_piece {k d k' d' : Int} {a b : TP.Str} : aBin prog .neq 104 (.agg #[.int .i64 k, .int .i64 d, .string (bs a)]) (.agg #[.int .i64 k', .int .i64 d', .string (bs b)]) = some (.bool !decide (k = k' ∧ d = d' ∧ a = b)) := by
  have h : aeqSt prog .neq 104 (.agg #[.int .i64 k, .int .i64 d, .string (bs a)]) (.agg #[.int .i64 k', .int .i64 d', .string (bs b)]) = some (.bool !decide (k = k' ∧ d = d' ∧ a = b)) := by
    unfold aeqSt
    simp only [negOf, underlying104, sameFields, ag9, ag3, underlying9, underlying3, List.getElem?_toArray, List.getElem?_cons_zero, List.getElem?_cons_succ, Instr.sameNow, beq_bs, ne_eq, String.reduceEq, not_false_eq_true, if_true, Bool.and_true, held104.1, held104.2]
    simp [bare, vok, Bool.decide_and, beq_dec]
  unfold aBin
  have h1 : abin prog .neq 104 (.agg #[.int .i64 k, .int .i64 d, .string (bs a)]) (.agg #[.int .i64 k', .int .i64 d', .string (bs b)]) = none := rfl
  have h2 : aeq prog .neq 104 (.agg #[.int .i64 k, .int .i64 d, .string (bs a)]) (.agg #[.int .i64 k', .int .i64 d', .string (bs b)]) = none := rfl
  have h3 : aeqArr prog .neq 104 (.agg #[.int .i64 k, .int .i64 d, .string (bs a)]) (.agg #[.int .i64 k', .int .i64 d', .string (bs b)]) = none := by unfold aeqArr; rw [underlying104]; rfl
  have h4 : aeqRow prog .neq 104 (.agg #[.int .i64 k, .int .i64 d, .string (bs a)]) (.agg #[.int .i64 k', .int .i64 d', .string (bs b)]) = none := rfl
  rw [h1, h2, h3, h4, h]
theorem aBin_bneq4 {a b : Bool} : aBin prog .neq 4 (.bool a) (.bool b) = some (.bool !decide (a = b)) := by rw [aBin_bneq underlying4]; cases a <;> cases b <;> rfl
theorem bl_eq : ∀ a b : TP.Str, Op.bytesLess a b = TP.blt a b
  | a, [] => by cases a <;> rfl
  | [], _ :: _ => rfl
  | a :: x, b :: y => by
    simp only [Op.bytesLess, TP.blt, bl_eq x y]
theorem aBin_sleq {P : Program} {t : TypeId} {a b : TP.Str} : aBin P .leq t (.string (bs a)) (.string (bs b)) = some (.bool !decide (TP.blt b a = true)) := by
  have h : (TP.blt a b || a == b) = !decide (TP.blt b a = true) := by
    rcases TP.blt_total a b with h | h | h
    · simp [h, TP.blt_asymm h]
    · subst h; simp [TP.blt_irrefl]
    · have h1 := TP.blt_asymm h
      have h2 := fun e : a = b => TP.blt_ne h e.symm
      simp [h, h1]; exact h2
  simp [aBin, abin, Op.stringOp, pureRun, bare, vok, pure, bs_toList, bl_eq]
  simpa using h
theorem aBin_sgeq {P : Program} {t : TypeId} {a b : TP.Str} : aBin P .geq t (.string (bs a)) (.string (bs b)) = some (.bool !decide (TP.blt a b = true)) := by
  simp [aBin, abin, Op.stringOp, pureRun, bare, vok, pure, bs_toList, bl_eq]
theorem guardV_undef {b : Bool} : guardV undef b = false := rfl
theorem aBin_sneq0 {P : Program} {t : TypeId} {a : TP.Str} : aBin P .neq t (.string (bs a)) (.string ⟨#[]⟩) = some (.bool !decide (a = [])) := aBin_sneq (b := [])
theorem aBin_seql0 {P : Program} {t : TypeId} {a : TP.Str} : aBin P .eql t (.string (bs a)) (.string ⟨#[]⟩) = some (.bool (decide (a = []))) := aBin_seql (b := [])
theorem burst {G G' : Prop} (g : G') (h : G = G' := by
  (conv => lhs; simp (implicitDefEqProofs := false) only [*, W_nil, W_ret, W_skip, W_label, W_seq, W_block, W_loop, W_scope, W_inBlock, W_inScope, W_reg, W_drw, W_cond, W_exit_block, W_exit_code, W_exit_loop, W_exit_scope, wCond_if, sIf_true, sIf_false, wo_nil, wo_guard, sGuard_true, sGuard_false, guardO_some, guardV_bool, dstAt, wo_move, wo_assign, wo_pick, wo_alloc, wo_box, wo_build, wo_buildSlice, wo_load, wo_store, wo_indexAddr, wo_fieldAddr, wo_nilCheck, wo_binOp, wo_not, wo_slice, wo_len, wo_call, wo_append, wo_extract, wo_makeFunc, sOr_some, sOr_none, sVal_some, sSome_some, sNot_bool, aPick_bool, aNil_ptr, aNil_fptr, aExtract_tuple, still1_some, done1_some, ev_tmp, ev_const, ev_func, putD_if, putD_none, tget_tset, setArgs_cons, setArgs_nil, Nat.reduceLT, Nat.reduceLeDiff, Nat.reduceAdd, Nat.reduceSub, Nat.reduceMul, Nat.reduceEqDiff, ↓reduceIte, Nat.zero_add, Nat.add_zero, Nat.mul_one, Nat.zero_le, true_and, and_true, Nat.sub_zero, Nat.zero_mul, List.drop_zero, List.take_zero, List.take_length, beq_t, beq_f, Bool.false_eq_true, Bool.not_true, Bool.not_false, Bool.not_not, decide_true, decide_false, List.map_toArray, List.toList_toArray, List.getElem?_toArray, List.getElem?_cons_succ, List.getElem?_cons_zero, List.map_cons, List.map_nil, List.length_cons, List.length_nil, List.nil_append, List.cons_append, List.length_append, Option.map_none, Option.map_some, Option.bind_some, Option.bind_none, Int.ofNat_le, Int.ofNat_lt, Int.natCast_inj, bs_size, aBin_eql, aBin_neq, aBin_lss, aBin_leq, aBin_gtr, aBin_geq, aBin_add, aBin_sub, aBin_seql, aBin_sneq, aLen_eq, aLenD_row, aLenD_slice, aLenD_str, goInt_eq, asliceAt_eq, aSliceD_row, aSliceD_str, aSliceD_slice, aSl_some, frS_some, frSlice_eq, opt2_some, optNat_none, optNat_some, nat_cast, nat_num, aindexAt_eq, aIxD_row, aIxD_slice, ixR_some, ixS_some, ptrAdd_fptr, ptrAdd_ptr, aload_eq, loadD_one, loadD_agg, cellsFrom_fptr, cellsFrom_ptr, cellsAt_mk, cellsO_cells, cellsO_grown, one_part, aggOf_some, part_ops, part_pieces, part_attrs, part_kids, part_opC, part_nodeC, part_pieceC, part_attrC, get_ops, get_ops0, get_pieces, get_pieces0, get_attrs, get_attrs0, get_kids, get_kids0, opC, pieceC, attrC, nodeC_eq, frPart_ints, ints_get, sub_ops, sub_kids, abox_mk, aalloc_eq, allocD_some, cells_agg, cells_int, cells_bool, cells_str, cells_frow, cells_slice, cells_ptr, astore_ptr, storeD_some, aresults_tmp, aresults_nil, one64, one65, one27, one24, one23, one41, non64, non65, non27, non24, non23, non41, opC_length, pieceC_length, attrC_length, nodeC_length, underlying3, underlying4, underlying5, underlying9, underlying22, underlying23, underlying24, underlying27, underlying31, underlying41, underlying64, underlying65, underlying330, sz3, sz4, sz5, sz9, sz22, sz23, sz24, sz26, sz27, sz31, sz41, sz61, sz64, sz65, sz67, sz104, sz239, sz298, sz327, sz330, sz334, ag3, ag4, ag5, ag9, ag22, ag23, ag24, ag26, ag27, ag31, ag41, ag61, ag64, ag65, ag67, ag104, ag239, ag298, ag327, ag330, ag334, fa26_0, fa26_1, fa26_2, fa26_3, fa26_4, fa26_5, fa61_0, fa61_1, fa67_0, fa67_1, fa67_2, fa67_3, fa67_4, fa67_5, fa67_6, fa67_7, fa67_8, fa67_9, fa67_10, fa104_0, fa104_1, fa104_2, fa239_0, fa239_1, fa327_0, fa327_1, fa327_2, fa327_3, fa327_4, fa327_5, zr67, zr26, zr104, zr61, zr239, zr327, zr330, zr3, zr27, bz26, bz67, b26_3, b61_2, b67_2, b67_2f, aresults_cell, resC_some, List.length_set, sNews_mk, aload_mkp, cellsFrom_mkp, cellsAt_mkp, gset, guardV_undef, aBin_sneq0, aBin_seql0, aBin_sleq, aBin_sgeq, aBin_bneq4, aBin_attr, aBin_piece, part_cons, one_one, setCells_mk, setO_cells, setO_grown, cellv_int, cellv_bool, cellv_str, cellv_frow, cellv_slice, cellv_ptr, all_one, all_nil, opC_cellv, pieceC_cellv, attrC_cellv, nodeC_cellv, splice, List.take_succ_cons, List.drop_succ_cons, List.set_cons_zero, List.set_cons_succ, List.append_nil, List.drop_nil, Bool.and_true, Bool.true_and])) : G := h ▸ g
theorem look {a b : Value} (h : a = b := by first | (simp (implicitDefEqProofs := false) only [*, tget_tset, Nat.reduceLT, Nat.reduceAdd, Nat.reduceEqDiff, ↓reduceIte]; done) | (simp (implicitDefEqProofs := false) only [*, tget_tset, Nat.reduceLT, Nat.reduceAdd, Nat.reduceEqDiff, ↓reduceIte]; rfl) | rfl) : a = b := h
theorem ends {l : List AB} {vs : List Value} {v v' : Value} (h : Frz (mk l) (tupleOf vs) v) (e : v = v') : ∃ vs', some vs = some vs' ∧ Frz (mk l) (tupleOf vs') v' := ⟨vs, rfl, e ▸ h⟩
theorem frz_int {l : List AB} {k : IntKind} {n : Int} : Frz (mk l) (tupleOf [.int k n]) (.int k n) := .clean rfl
theorem frz_own {l : List AB} {e s n m : Nat} {v : Value} {cs ds : List Value} (h : Own e s l v n cs) (hl : l.length < 16777216) (hn : n = m) (hc : cs = ds) (hcl : cleanL ds = true) : Frz (mk l) (tupleOf [v]) (frow m ds) := by subst hn hc; exact h.frz hl hcl
theorem frz_bool {l : List AB} {b : Bool} : Frz (mk l) (tupleOf [.bool b]) (.bool b) := .clean rfl
end Go.Ev
namespace Go.Ev
open Go Go.Proofs Tryz
set_option maxRecDepth 100000
theorem wrap_succ {i N : Nat} (h : i ≤ N) (hN : N < 4611686018427387904) : IntKind.i64.wrap ((i : Int) + 1) = ((i + 1 : Nat) : Int) := by rw [wrap_in (by omega) (by omega)]; omega
theorem cl1 {v : Value} (h : clean v = true) : cleanL [v] = true := cleanL_cons h rfl
theorem cl2 {v u : Value} (h : clean v = true) (h' : clean u = true) : cleanL [v, u] = true := cleanL_cons h (cl1 h')
theorem cl3 {v u x : Value} (h : clean v = true) (h' : clean u = true) (h2 : clean x = true) : cleanL [v, u, x] = true := cleanL_cons h (cl2 h' h2)
theorem get_some {α : Type} {l : List α} {i : Nat} (h : i < l.length) : l[i]? = some l[i] := List.getElem?_eq_getElem h
theorem equal_fn (p q : List Int) (hp : p.length < 4294967296) : Fn prog 218 [rowI p, rowI q] (.bool (decide (p = q))) := by
  refine fn_is func218 ntmps218 results218 rfl cfgOK mixed (cl2 (rowI_clean p) (rowI_clean q)) ?_
  refine burst ?_
  refine sIf_intro (fun h => ?_) (fun h => ?_)
  · refine burst ?_
    refine ends frz_bool ?_
    have : p ≠ q := by rintro rfl; simp at h
    simp [this]
  · have hl : p.length = q.length := by simpa using h
    refine burst ?_
    refine W_for p.length (fun i tm A => A = mk [] ∧ tget tm 0 = rowI p ∧ tget tm 1 = rowI q ∧ tget tm 12 = .int .i64 p.length ∧ tget tm 13 = .int .i64 i ∧ p.take i = q.take i) ?_ 0 _ _ (by omega) ⟨rfl, look, look, look, look, rfl⟩
    rintro i tm A hi ⟨rfl, h0, h1, h12, h13, ht⟩ next
    clear hl
    refine burst ?_
    refine sIf_intro (fun h2 => ?_) (fun h2 => ?_)
    · have hi1 : i < p.length := of_decide_eq_true h2
      have hi2 : i < q.length := by have : p.length = q.length := by simpa using h
                                    omega
      have e1 := get_some hi1
      have e2 := get_some hi2
      refine burst ?_
      refine sDraw_seq cfgOK (by kernel_rfl) ?_
      refine burst ?_
      refine sIfN_intro (fun h3 => ?_) (fun h3 => ?_)
      · refine burst ?_
        refine ends frz_bool ?_
        have : p ≠ q := by
          rintro rfl
          simp at h3
        simp [this]
      · have hw := wrap_succ (Nat.le_of_lt hi1) (by omega)
        refine burst ?_
        refine next _ _ hi1 ⟨rfl, look, look, look, look, ?_⟩
        have h3 : p[i] = q[i] := by simpa using h3
        rw [List.take_add_one, List.take_add_one, e1, e2, ht, h3]
    · refine burst ?_
      refine ends frz_bool ?_
      have hi1 : ¬ i < p.length := of_decide_eq_false h2
      have : p.length = q.length := by simpa using h
      rw [List.take_of_length_le (by omega), List.take_of_length_le (by omega)] at ht
      simp [ht]
theorem same_fn (p q : List Int) (hp : p.length < 4294967296) : Fn prog 136 [rowI p, rowI q] (.bool (decide (p = q))) := by
  refine fn_is func136 ntmps136 results136 rfl cfgOK mixed (cl2 (rowI_clean p) (rowI_clean q)) ?_
  refine burst ?_
  refine sCall_fn (equal_fn p q hp) ?_
  refine burst ?_
  exact ends frz_bool rfl
theorem within_fn (p q : List Int) (hp : p.length < 4294967296) : Fn prog 201 [rowI p, rowI q] (.bool (decide (p <+: q))) := by
  refine fn_is func201 ntmps201 results201 rfl cfgOK mixed (cl2 (rowI_clean p) (rowI_clean q)) ?_
  refine burst ?_
  refine sGuard_intro (fun h => ?_) (fun h => ?_)
  · have hle : p.length ≤ q.length := of_decide_eq_true h
    refine burst ?_
    refine sCall_fn (equal_fn p (q.take p.length) hp) ?_
    refine burst ?_
    refine ends frz_bool ?_
    simp only [Value.bool.injEq, decide_eq_decide]
    rw [List.prefix_iff_eq_take]
  · have hle : ¬ p.length ≤ q.length := of_decide_eq_false h
    refine burst ?_
    refine ends frz_bool ?_
    have : ¬ p <+: q := fun h => hle h.length_le
    simp [this]
theorem mayf_fn (n : Int) : Fn prog 261 [.int .i64 n] (.bool (decide (n < 0 ∨ 1048576 ≤ n))) := by
  refine fn_is func261 ntmps261 results261 rfl cfgOK mixed (cl1 rfl) ?_
  refine burst ?_
  refine sGuardN_intro (fun h => ?_) (fun h => ?_)
  · refine burst ?_
    refine ends frz_bool ?_
    have : ¬ n < 0 := by simpa using h
    simp [this]
  · refine burst ?_
    refine ends frz_bool ?_
    have : n < 0 := by simpa using h
    simp [this]
theorem indexf_fn (p : List Int) (g : FuncId) (t : Int → Bool) (ht : ∀ n, Fn prog g [.int .i64 n] (.bool (t n))) (hp : p.length < 4294967296) : Fn prog 299 [rowI p, .func (.func g) #[] #[]] (.int .i64 (match p.findIdx? t with | some i => (i : Int) | none => -1)) := by
  refine fn_is func299 ntmps299 results299 rfl cfgOK mixed (cl2 (rowI_clean p) rfl) ?_
  refine burst ?_
  refine W_for p.length (fun i tm A => A = mk [] ∧ tget tm 0 = rowI p ∧ tget tm 1 = .func (.func g) #[] #[] ∧ tget tm 7 = .int .i64 p.length ∧ tget tm 8 = .int .i64 i ∧ ∀ x ∈ p.take i, t x = false) ?_ 0 _ _ (by omega) ⟨rfl, look, look, look, look, by simp⟩
  rintro i tm A hi ⟨rfl, h0, h1, h7, h8, hf⟩ next
  refine burst ?_
  refine sIf_intro (fun h2 => ?_) (fun h2 => ?_)
  · have hi1 : i < p.length := of_decide_eq_true h2
    have e1 := get_some hi1
    refine burst ?_
    refine sCall_fn (ht p[i]) ?_
    refine burst ?_
    refine sIf_intro (fun h3 => ?_) (fun h3 => ?_)
    · refine burst ?_
      refine ends (.clean rfl) ?_
      have : p.findIdx? t = some i := by
        rw [List.findIdx?_eq_some_iff_getElem]
        refine ⟨hi1, h3, fun j hj => ?_⟩
        simpa using hf p[j] (by rw [List.mem_take_iff_getElem]; exact ⟨j, by omega, rfl⟩)
      rw [this]; rfl
    · have hw := wrap_succ (Nat.le_of_lt hi1) (by omega)
      refine burst ?_
      refine next _ _ hi1 ⟨rfl, look, look, look, look, ?_⟩
      intro x hx
      rw [List.take_add_one, e1] at hx
      simp only [Option.toList, List.mem_append, List.mem_singleton] at hx
      rcases hx with hx | rfl
      · exact hf x hx
      · exact h3
  · refine burst ?_
    refine ends (.clean rfl) ?_
    have hi1 : ¬ i < p.length := of_decide_eq_false h2
    rw [List.take_of_length_le (by omega)] at hf
    have : p.findIdx? t = none := by
      rw [List.findIdx?_eq_none_iff]; exact hf
    rw [this]; rfl
theorem containsf_fn (p : List Int) (g : FuncId) (t : Int → Bool) (ht : ∀ n, Fn prog g [.int .i64 n] (.bool (t n))) (hp : p.length < 4294967296) : Fn prog 260 [rowI p, .func (.func g) #[] #[]] (.bool (p.any t)) := by
  refine fn_is func260 ntmps260 results260 rfl cfgOK mixed (cl2 (rowI_clean p) rfl) ?_
  refine burst ?_
  refine sCall_fn (indexf_fn p g t ht hp) ?_
  refine burst ?_
  refine ends frz_bool ?_
  cases h : p.findIdx? t with
  | none =>
    rw [List.findIdx?_eq_none_iff] at h
    have : p.any t = false := by rw [List.any_eq_false]; intro x hx; simpa using h x hx
    rw [this]; rfl
  | some i =>
    have h2 := h
    rw [List.findIdx?_eq_some_iff_getElem] at h2
    obtain ⟨h3, h4, _⟩ := h2
    have : p.any t = true := by rw [List.any_eq_true]; exact ⟨p[i], List.getElem_mem h3, h4⟩
    rw [this]; simp
def mayP (p : List Int) : Prop := p.length ≤ 64 ∧ ∀ n ∈ p, 0 ≤ n ∧ n < 1048576
instance (p : List Int) : Decidable (mayP p) := inferInstanceAs (Decidable (_ ∧ _))
theorem may_fn (p : List Int) (hp : p.length < 4294967296) : Fn prog 197 [rowI p] (.bool (decide (mayP p))) := by
  refine fn_is func197 ntmps197 results197 rfl cfgOK mixed (cl1 (rowI_clean p)) ?_
  refine burst ?_
  refine sGuard_intro (fun h => ?_) (fun h => ?_)
  · refine burst ?_
    refine sCall_fn (containsf_fn p 261 _ mayf_fn hp) ?_
    refine burst ?_
    refine ends frz_bool ?_
    have h64 : p.length ≤ 64 := by have := of_decide_eq_true h; omega
    simp only [Value.bool.injEq]
    rw [Bool.eq_iff_iff]
    simp [mayP, h64]
  · refine burst ?_
    refine ends frz_bool ?_
    have h64 : ¬ p.length ≤ 64 := by have := of_decide_eq_false h; omega
    simp [mayP, h64]
end Go.Ev
namespace Go.Ev
open Go Go.Proofs Tryz
open TP (Str)
set_option maxRecDepth 100000
variable {P : Program} {ns ty : Nat} {ops rest : List Oper} {k : List Item} {tm : Trie Value} {A : AS} {Q : Trie Value → AS → Prop} {dst : Option Tmp} {pos : String} {after : Array Edge}
theorem pureRun_bind {α β : Type} (s : Sem α) (f : α → Sem β) : pureRun P (s >>= f) = (pureRun P s).bind fun a => pureRun P (f a) := by
  show pureRun P (Sem.bind s f) = _
  induction s with
  | pure a => rfl
  | program k ih => simp only [Sem.bind, pureRun]; exact ih P
  | mark m k ih => simp only [Sem.bind, pureRun]; exact ih
  | _ => rfl
theorem pureRun_pure {α : Type} (a : α) : pureRun P (pure a) = some a := rfl
set_option linter.unusedVariables false in
theorem seen {tm : Trie Value} {x : Operand} {v : Value} (h : ev tm x = v := by (simp (implicitDefEqProofs := false) only [*, ev_tmp, ev_const, tget_tset, Nat.reduceLT, Nat.reduceAdd, Nat.reduceEqDiff, ↓reduceIte] <;> rfl)) : ev tm x = v := h
theorem bs_extract (s : Str) (a b : Nat) (h : b ≤ s.length) : (bs s).extract a b = bs ((s.take b).drop a) := by
  apply ByteArray.ext
  apply Array.ext'
  simp only [bs, ByteArray.data_extract, Array.toList_extract, List.extract_eq_take_drop]
  rw [List.drop_take]
theorem sliceBound_nat {a y : Nat} {c : BoundsCode} (h : a ≤ y) : pureRun P (Instr.sliceBound (.int .i64 a) y c) = some a := by
  unfold Instr.sliceBound
  rw [pureRun_bind]
  simp only [asIntOf, pureRun_pure, Option.bind_some]
  rw [if_pos (by omega)]; simp [pureRun_pure]
theorem pureRun_underlying {t : TypeId} {d : TypeDesc} (h : P.underlying t = some d) : pureRun P (underlying t) = some d := by
  unfold underlying
  rw [pureRun_bind]
  show (some P).bind _ = _
  simp only [Option.bind_some, h]; rfl
theorem sSlice {c : Bool} {t : TypeId} {x : Operand} {lo hi : Option Operand} {s : Str} {a b : Nat} (hu : P.underlying t = some .string) (hx : ev tm x = .string (bs s))
    (hlo : lo.map (ev tm) = none ∧ a = 0 ∨ lo.map (ev tm) = some (.int .i64 a)) (hhi : hi.map (ev tm) = none ∧ b = s.length ∨ hi.map (ev tm) = some (.int .i64 b)) (hab : a ≤ b) (hb : b ≤ s.length)
    (K : wRun P c ns ops rest k (putD ns tm dst (.string (bs ((s.take b).drop a)))) A Q) :
    sSome P c ns (aBare P tm ⟨dst, .slice t x lo hi none, ty, pos, after, none⟩ A) dst ops rest k tm Q := by
  have e : aBare P tm ⟨dst, .slice t x lo hi none, ty, pos, after, none⟩ A = some (.string (bs ((s.take b).drop a)), A) := by
    unfold aBare
    have hbl : ∀ (y : Option Operand) (n : Nat), (y.map (ev tm) = none ∨ y.map (ev tm) = some (.int .i64 n)) → y.toList.all (fun z => bare (ev tm z)) = true := fun y n h => by
      cases y with
      | none => rfl
      | some y =>
        simp only [Option.map_some, reduceCtorEq, Option.some.injEq, false_or] at h
        simp only [Option.toList, List.all_cons, List.all_nil, h]; rfl
    have h1 : (opsL (Op.slice t x lo hi none)).all (fun z => bare (ev tm z)) = true := by
      simp only [opsL, List.all_cons, List.all_append, hx, hbl lo a (hlo.imp (·.1) id), hbl hi b (hhi.imp (·.1) id)]; rfl
    rw [if_pos h1]
    have h2 : pureRun P (execOp (ev tm) ⟨dst, .slice t x lo hi none, ty, pos, after, none⟩) = some (Next.value (.string (bs ((s.take b).drop a)))) := by
      show pureRun P ((Instr.sliceAt t (ev tm x) (lo.map (ev tm)) (hi.map (ev tm)) none) >>= fun v => pure (Next.value v)) = _
      rw [hx, pureRun_bind]
      unfold Instr.sliceAt
      rw [pureRun_bind, pureRun_underlying hu]
      simp only [Option.bind_some]
      unfold Instr.slice
      rw [pureRun_bind, pureRun_underlying hu]
      simp only [Option.bind_some, Option.isSome_none, Bool.false_eq_true, if_false]
      rw [pureRun_bind]
      have hsb : pureRun P (Instr.sliceBounds false (bs s).size (bs s).size (lo.map (ev tm)) (hi.map (ev tm)) none) = some (a, b, (bs s).size) := by
        unfold Instr.sliceBounds
        rcases hlo with ⟨q1, rfl⟩ | q1 <;> rcases hhi with ⟨q2, rfl⟩ | q2 <;> rw [q1, q2] <;> simp only [pureRun_bind, pureRun_pure, Option.bind_some, bs_size, sliceBound_nat hb, sliceBound_nat hab, Option.isSome_none, Bool.false_eq_true, if_false]
      rw [hsb]
      simp only [Option.bind_some, pureRun_pure, bs_extract s a b hb]
    rw [h2]; rfl
  rw [e, sSome_some]; exact K
theorem sMin {c : Bool} {x y : Operand} {at_ : Array TypeId} {m n : Int} (hx : ev tm x = .int .i64 m) (hy : ev tm y = .int .i64 n) (K : wRun P c ns ops rest k (putD ns tm dst (.int .i64 (min m n))) A Q) :
    sSome P c ns (aBare P tm ⟨dst, .call ⟨.builtin .min, #[x, y], at_⟩, ty, pos, after, none⟩ A) dst ops rest k tm Q := by
  have e : aBare P tm ⟨dst, .call ⟨.builtin .min, #[x, y], at_⟩, ty, pos, after, none⟩ A = some (.int .i64 (min m n), A) := by
    unfold aBare
    have h1 : (opsL (Op.call ⟨.builtin .min, #[x, y], at_⟩)).all (fun z => bare (ev tm z)) = true := by
      simp only [opsL, List.nil_append, List.all_cons, List.all_nil, hx, hy]; rfl
    rw [if_pos h1]
    have h2 : pureRun P (execOp (ev tm) ⟨dst, .call ⟨.builtin .min, #[x, y], at_⟩, ty, pos, after, none⟩) = some (Next.value (.int .i64 (min m n))) := by
      have h3 : #[x, y].map (ev tm) = #[.int .i64 m, .int .i64 n] := by simp [hx, hy]
      simp only [execOp, resolve, pureRun_bind, pureRun_pure, Option.bind_some, invoke, builtin, h3]
      simp only [Builtin.min_, List.foldlM, Builtin.min2, pureRun_bind, pureRun_pure, Option.bind_some]
      congr 3
      split <;> omega
    rw [h2]; rfl
  rw [e, sSome_some]; exact K
theorem sMax {c : Bool} {x y : Operand} {at_ : Array TypeId} {m n : Int} (hx : ev tm x = .int .i64 m) (hy : ev tm y = .int .i64 n) (K : wRun P c ns ops rest k (putD ns tm dst (.int .i64 (max m n))) A Q) :
    sSome P c ns (aBare P tm ⟨dst, .call ⟨.builtin .max, #[x, y], at_⟩, ty, pos, after, none⟩ A) dst ops rest k tm Q := by
  have e : aBare P tm ⟨dst, .call ⟨.builtin .max, #[x, y], at_⟩, ty, pos, after, none⟩ A = some (.int .i64 (max m n), A) := by
    unfold aBare
    have h1 : (opsL (Op.call ⟨.builtin .max, #[x, y], at_⟩)).all (fun z => bare (ev tm z)) = true := by
      simp only [opsL, List.nil_append, List.all_cons, List.all_nil, hx, hy]; rfl
    rw [if_pos h1]
    have h2 : pureRun P (execOp (ev tm) ⟨dst, .call ⟨.builtin .max, #[x, y], at_⟩, ty, pos, after, none⟩) = some (Next.value (.int .i64 (max m n))) := by
      have h3 : #[x, y].map (ev tm) = #[.int .i64 m, .int .i64 n] := by simp [hx, hy]
      simp only [execOp, resolve, pureRun_bind, pureRun_pure, Option.bind_some, invoke, builtin, h3]
      simp only [Builtin.max_, List.foldlM, Builtin.max2, pureRun_bind, pureRun_pure, Option.bind_some]
      congr 3
      split <;> omega
    rw [h2]; rfl
  rw [e, sSome_some]; exact K
theorem aBin_sadd {t : TypeId} {a b : Str} (h : a.length + b.length < 9223372036854775808) : aBin P .add t (.string (bs a)) (.string (bs b)) = some (.string (bs (a ++ b))) := by
  have e : bs a ++ bs b = bs (a ++ b) := by
    apply ByteArray.ext
    apply Array.ext'
    simp [bs]
  have hm : ¬ ((((bs a).size + (bs b).size : Nat) : Int) > IntKind.i64.max) := by
    rw [bs_size, bs_size]
    have : IntKind.i64.max = 9223372036854775807 := by decide
    omega
  have h1 : pureRun P (Op.stringOp .add (bs a) (bs b)) = some (.string (bs (a ++ b))) := by
    unfold Op.stringOp
    simp only
    rw [if_neg hm, e]; rfl
  unfold aBin abin
  simp only [h1]
  rfl
end Go.Ev
namespace Go.Ev
open Go Go.Proofs Tryz
set_option maxRecDepth 100000
set_option maxHeartbeats 4000000
variable {P : Program} {c : Bool} {ns : Nat} {ops rest : List Oper} {k : List Item} {tm : Trie Value} {A : AS} {Q : Trie Value → AS → Prop}
structure Hid (p : Prop) : Prop where
  out : p
structure Sub (R S : Trie Value → AS → Prop) : Prop where
  to : ∀ {tm A}, R tm A → S tm A
theorem run_cut (R : Trie Value → AS → Prop) (h : ∀ S, Sub R S → wRun P c ns ops rest [] tm A S) (h2 : ∀ tm' A', R tm' A' → W P ns k tm' A' Q) : wRun P c ns ops rest k tm A Q := by
  have h := h R ⟨id⟩
  unfold wRun at h ⊢
  refine wOpsF_mono (fun tm' A' hr => ?_) _ _ _ h
  rw [W_nil] at hr
  exact h2 _ _ hr
theorem guard_cut (R : Trie Value → AS → Prop) {b : Bool} {o : Oper} (h : ∀ S, Sub R S → sGuard P c ns b o ops rest [] tm A S) (h2 : ∀ tm' A', R tm' A' → W P ns k tm' A' Q) : sGuard P c ns b o ops rest k tm A Q := by
  unfold sGuard at h ⊢
  cases b
  · exact run_cut R h h2
  · exact run_cut R h h2
section plain
variable {p : Prop} {_ : Decidable p} {a b : Code} {o : Oper}
theorem ifD (h1 : p → W P ns (.code a :: k) tm A Q) (h2 : ¬ p → W P ns (.code b :: k) tm A Q) : sIf P ns (decide p) a b k tm A Q :=
  sIf_intro (fun h => h1 (of_decide_eq_true h)) (fun h => h2 (of_decide_eq_false h))
theorem ifND (h1 : ¬ p → W P ns (.code a :: k) tm A Q) (h2 : p → W P ns (.code b :: k) tm A Q) : sIf P ns (!decide p) a b k tm A Q :=
  sIfN_intro (fun h => h1 (of_decide_eq_false h)) (fun h => h2 (of_decide_eq_true h))
theorem guardD (h1 : p → wRun P c ns ops (o :: rest) k tm A Q) (h2 : ¬ p → wRun P c ns ops rest k (putD ns tm o.dst undef) A Q) : sGuard P c ns (decide p) o ops rest k tm A Q :=
  sGuard_intro (fun h => h1 (of_decide_eq_true h)) (fun h => h2 (of_decide_eq_false h))
theorem guardND (h1 : ¬ p → wRun P c ns ops (o :: rest) k tm A Q) (h2 : p → wRun P c ns ops rest k (putD ns tm o.dst undef) A Q) : sGuard P c ns (!decide p) o ops rest k tm A Q :=
  sGuardN_intro (fun h => h1 (of_decide_eq_false h)) (fun h => h2 (of_decide_eq_true h))
end plain
theorem ends_bool {l : List AB} {a b : Bool} (h : a = b) : ∃ vs, some [Value.bool a] = some vs ∧ Frz (mk l) (tupleOf vs) (.bool b) := by subst h; exact ⟨_, rfl, frz_bool⟩
theorem ends_int {l : List AB} {κ : IntKind} {a b : Int} (h : a = b) : ∃ vs, some [Value.int κ a] = some vs ∧ Frz (mk l) (tupleOf vs) (.int κ b) := by subst h; exact ⟨_, rfl, frz_int⟩
structure Acc (e s : Nat) (B l : List AB) (v : Value) (n : Nat) (cs : List Value) : Prop where
  own : Own e s l v n cs
  base : ∀ b, b < B.length → l[b]? = B[b]?
  off : ∀ b, ownB v = some b → B.length ≤ b ∧ b < l.length
  len : B.length ≤ l.length
theorem Acc.nil {e s : Nat} {B : List AB} : Acc e s B B (.slice none 0 0) 0 [] := ⟨.nil, fun _ _ => rfl, fun b h => by simp [ownB] at h, Nat.le_refl _⟩
theorem Acc.of {e s : Nat} {B l l' : List AB} {v v' : Value} {n n' : Nat} {cs cs' : List Value} (h : Acc e s B l v n cs) (h1 : Own e s l' v' n' cs') (h2 : l.length ≤ l'.length)
    (h3 : ∀ b, b < l.length → ownB v ≠ some b → l'[b]? = l[b]?) (h4 : ∀ b, ownB v' = some b → b < l'.length ∧ (l.length ≤ b ∨ ownB v = some b)) : Acc e s B l' v' n' cs' := by
  have hl := h.len
  refine ⟨h1, fun b hb => ?_, fun b hb => ?_, by omega⟩
  · rw [h3 b (by omega) fun e => by have := (h.off b e).1; omega]; exact h.base b hb
  · obtain ⟨q1, q2⟩ := h4 b hb
    refine ⟨?_, q1⟩
    rcases q2 with q2 | q2
    · omega
    · exact (h.off b q2).1
theorem Acc.more {e s : Nat} {B l : List AB} {v : Value} {n : Nat} {cs : List Value} (h : Acc e s B l v n cs) (x : AB) : Acc e s B (l ++ [x]) v n cs :=
  ⟨h.own.grow fun b hb => List.getElem?_append_left (h.off b hb).2, fun b hb => by rw [List.getElem?_append_left (by have := h.len; omega)]; exact h.base b hb, fun b hb => ⟨(h.off b hb).1, by have := (h.off b hb).2; simp; omega⟩, by have := h.len; simp; omega⟩
theorem Acc.app24 {B l : List AB} {v x : Value} {n m : Nat} {cs new : List Value} (h : Acc 26 6 B l v n cs) (hn : News prog l 26 6 false x new m) (hl : l.length + 2 < 16777216) (hb : n + m ≤ 16777216) :
    ∃ v' l', aappend prog (Ev.mk l) #[24, 24] [v, x] = some (v', Ev.mk l') ∧ Acc 26 6 B l' v' (n + m) (cs ++ new) ∧ l'.length ≤ l.length + 1 := by
  obtain ⟨v', l', q1, q2, q3, q4, q5, q6⟩ := Ev.app24 h.own hn hl hb
  exact ⟨v', l', q1, h.of q2 q3 q5 q6, q4⟩
theorem Acc.app23 {B l : List AB} {v x : Value} {n m : Nat} {cs new : List Value} (h : Acc 61 2 B l v n cs) (hn : News prog l 61 2 false x new m) (hl : l.length + 2 < 16777216) (hb : n + m ≤ 16777216) :
    ∃ v' l', aappend prog (Ev.mk l) #[23, 23] [v, x] = some (v', Ev.mk l') ∧ Acc 61 2 B l' v' (n + m) (cs ++ new) ∧ l'.length ≤ l.length + 1 := by
  obtain ⟨v', l', q1, q2, q3, q4, q5, q6⟩ := Ev.app23 h.own hn hl hb
  exact ⟨v', l', q1, h.of q2 q3 q5 q6, q4⟩
theorem Acc.app27 {B l : List AB} {v x : Value} {n m : Nat} {cs new : List Value} (h : Acc 67 11 B l v n cs) (hn : News prog l 67 11 false x new m) (hl : l.length + 2 < 16777216) (hb : n + m ≤ 16777216) :
    ∃ v' l', aappend prog (Ev.mk l) #[27, 27] [v, x] = some (v', Ev.mk l') ∧ Acc 67 11 B l' v' (n + m) (cs ++ new) ∧ l'.length ≤ l.length + 1 := by
  obtain ⟨v', l', q1, q2, q3, q4, q5, q6⟩ := Ev.app27 h.own hn hl hb
  exact ⟨v', l', q1, h.of q2 q3 q5 q6, q4⟩
theorem Acc.frz {e s : Nat} {B l l' : List AB} {v : Value} {n : Nat} {cs : List Value} (h : Acc e s B l v n cs) (hl : l'.length < 16777216) (hs : ∀ b, B.length ≤ b → l'[b]? = l[b]?) (hc : cleanL cs = true) : Frz (Ev.mk l') v (frow n cs) :=
  (h.own.grow fun b hb => hs b (h.off b hb).1).frz hl hc
end Go.Ev
namespace Go.Ev
open Go Go.Proofs Tryz
open TP (Str)
set_option maxRecDepth 100000
set_option maxHeartbeats 4000000
def comm : List Int → List Int → Nat
  | x :: p, y :: q => if x = y then comm p q + 1 else 0
  | _, _ => 0
theorem comm_eq : ∀ {p q : List Int} {i : Nat}, p.take i = q.take i → i ≤ p.length → i ≤ q.length → ¬ (i < p.length ∧ i < q.length ∧ p[i]? = q[i]?) → comm p q = i
  | [], q, i, _, h, _, _ => by simp at h; subst h; cases q <;> rfl
  | x :: p, [], i, _, _, h, _ => by simp at h; subst h; rfl
  | x :: p, y :: q, 0, _, _, _, h => by
    simp at h
    simp [comm, h]
  | x :: p, y :: q, i + 1, h1, h2, h3, h4 => by
    simp only [List.take_succ_cons, List.cons.injEq] at h1
    rw [comm, if_pos h1.1, comm_eq h1.2 (by simpa using h2) (by simpa using h3) (by simpa using h4)]
theorem comm_prefix : ∀ (p q : List Int), comm p q = p.length ↔ p <+: q
  | [], q => by cases q <;> simp [comm]
  | x :: p, [] => by simp [comm]
  | x :: p, y :: q => by
    have ih := comm_prefix p q
    simp only [comm, List.length_cons, List.cons_prefix_cons]
    split
    · rename_i h; simp [h, ih]
    · rename_i h; simp [h]
theorem common_fn (p q : List Int) (hp : p.length < 4294967296) : Fn prog 196 [rowI p, rowI q] (.int .i64 (comm p q)) := by
  refine fn_is func196 ntmps196 results196 rfl cfgOK mixed (cl2 (rowI_clean p) (rowI_clean q)) ?_
  refine burst ?_
  refine W_for p.length (fun i tm A => A = mk [] ∧ tget tm 0 = rowI p ∧ tget tm 1 = rowI q ∧ tget tm 5 = .int .i64 i ∧ p.take i = q.take i ∧ i ≤ q.length) ?_ 0 _ _ (by omega) ⟨rfl, look, look, look, by simp, by simp⟩
  rintro i tm A hi ⟨rfl, h0, h1, h5, ht, hq⟩ next
  have stop : (¬ (i < p.length ∧ i < q.length ∧ p[i]? = q[i]?)) → comm p q = i := comm_eq ht hi hq
  refine burst ?_
  refine sDraw_seq cfgOK (by kernel_rfl) ?_
  refine burst ?_
  refine sGuard_intro (fun h => ?_) (fun h => ?_)
  · have hi1 : i < p.length := of_decide_eq_true h
    have e1 := get_some hi1
    refine burst ?_
    refine sGuard_intro (fun h2 => ?_) (fun h2 => ?_)
    · have hi2 : i < q.length := of_decide_eq_true h2
      have e2 := get_some hi2
      refine burst ?_
      refine sIf_intro (fun h3 => ?_) (fun h3 => ?_)
      · have h3 := of_decide_eq_true h3
        have hw := wrap_succ (Nat.le_of_lt hi1) (by omega)
        refine burst ?_
        refine next _ _ hi1 ⟨rfl, look, look, look, ?_, hi2⟩
        rw [List.take_add_one, List.take_add_one, e1, e2, ht, h3]
      · have h3 := of_decide_eq_false h3
        refine burst ?_
        refine ends frz_int ?_
        rw [stop (by rw [e1, e2]; simpa [hi1, hi2] using h3)]
    · have hi2 : ¬ i < q.length := of_decide_eq_false h2
      refine burst ?_
      refine ends frz_int ?_
      rw [stop (by omega)]
  · have hi1 : ¬ i < p.length := of_decide_eq_false h
    refine burst ?_
    refine ends frz_int ?_
    rw [stop (by omega)]
theorem within4_fn (p q : List Int) (hp : p.length < 4294967296) : Fn prog 139 [rowI p, rowI q] (.bool (decide (p <+: q))) := by
  refine fn_is func139 ntmps139 results139 rfl cfgOK mixed (cl2 (rowI_clean p) (rowI_clean q)) ?_
  refine burst ?_
  refine sCall_fn (common_fn p q hp) ?_
  refine burst ?_
  refine ends frz_bool ?_
  simp [comm_prefix]
theorem may4_fn (p : List Int) (hp : p.length < 4294967296) : Fn prog 113 [rowI p] (.bool (decide (mayP p))) := by
  refine fn_is func113 ntmps113 results113 rfl cfgOK mixed (cl1 (rowI_clean p)) ?_
  refine burst ?_
  refine W_for p.length (fun i tm A => A = mk [] ∧ tget tm 0 = rowI p ∧ tget tm 3 = .int .i64 i ∧ i ≤ 64 ∧ ∀ x ∈ p.take i, 0 ≤ x ∧ x < 1048576) ?_ 0 _ _ (by omega) ⟨rfl, look, look, by omega, by simp⟩
  rintro i tm A hi ⟨rfl, h0, h3, h64, hf⟩ next
  refine burst ?_
  refine sIf_intro (fun h => ?_) (fun h => ?_)
  · have hi1 : i < p.length := of_decide_eq_true h
    obtain ⟨x, e1⟩ : ∃ x, p[i]? = some x := ⟨_, get_some hi1⟩
    have hx : x ∈ p := List.mem_of_getElem? e1
    have no : ¬ (0 ≤ x ∧ x < 1048576 ∧ i < 64) → ¬ mayP p := fun h1 h2 => h1 ⟨(h2.2 x hx).1, (h2.2 x hx).2, by have := h2.1; omega⟩
    refine burst ?_
    refine sGuardN_intro (fun q1 => ?_) (fun q1 => ?_)
    · have q1' : i < 64 := by have := of_decide_eq_false q1; omega
      refine burst ?_
      refine sGuardN_intro (fun q2 => ?_) (fun q2 => ?_)
      · refine burst ?_
        have q2' := of_decide_eq_false q2
        refine sIf_intro (fun q3 => ?_) (fun q3 => ?_)
        · refine burst ?_
          refine ends frz_bool ?_
          have q3' := of_decide_eq_true q3
          simp [no (by omega)]
        · have q3' := of_decide_eq_false q3
          have hw := wrap_succ (Nat.le_of_lt hi1) (by omega)
          refine burst ?_
          refine next _ _ hi1 ⟨rfl, look, look, by omega, fun y hy => ?_⟩
          rw [List.take_add_one, e1] at hy
          simp only [Option.toList, List.mem_append, List.mem_singleton] at hy
          rcases hy with hy | rfl
          · exact hf y hy
          · omega
      · refine burst ?_
        refine ends frz_bool ?_
        have q2' := of_decide_eq_true q2
        simp [no (by omega)]
    · refine burst ?_
      refine ends frz_bool ?_
      have q1' := of_decide_eq_true q1
      simp [no (by omega)]
  · have hi1 : ¬ i < p.length := of_decide_eq_false h
    refine burst ?_
    refine ends frz_bool ?_
    have : mayP p := ⟨by omega, fun x hx => hf x (by rw [List.take_of_length_le (by omega)]; exact hx)⟩
    simp [this]
theorem key6_fn (s : Str) : Fn prog 114 [.string (bs s)] (.bool (decide (1 ≤ s.length ∧ s.length ≤ 64))) := by
  refine fn_is func114 ntmps114 results114 rfl cfgOK mixed (cl1 rfl) ?_
  refine burst ?_
  refine sGuard_intro (fun h => ?_) (fun h => ?_)
  · refine burst ?_
    refine ends frz_bool ?_
    have h := of_decide_eq_true h
    have : 1 ≤ s.length := by omega
    simp only [this, true_and]
    rw [Value.bool.injEq, decide_eq_decide]; omega
  · refine burst ?_
    refine ends frz_bool ?_
    have h := of_decide_eq_false h
    rw [Value.bool.injEq, eq_comm, decide_eq_false_iff_not]; omega
def rightG (l : List GPiece) : Prop := l.length ≤ 4096 ∧ (∀ p ∈ l, 0 ≤ p.keep ∧ p.keep ≤ 1048576 ∧ 0 ≤ p.drop ∧ p.drop ≤ 1048576) ∧ (l.map fun p => p.put.length).sum ≤ 1048576
instance (l : List GPiece) : Decidable (rightG l) := inferInstanceAs (Decidable (_ ∧ _))
theorem sum_take {l : List GPiece} {i : Nat} {x : GPiece} (h : l[i]? = some x) (f : GPiece → Nat) : ((l.take (i + 1)).map f).sum = ((l.take i).map f).sum + f x := by
  rw [List.take_add_one, h]; simp
theorem sum_take_le (l : List GPiece) (f : GPiece → Nat) : ∀ i, ((l.take i).map f).sum ≤ (l.map f).sum := by
  induction l with
  | nil => intro i; simp
  | cons x l ih => intro i; cases i with
    | zero => simp
    | succ i => simp only [List.take_succ_cons, List.map_cons, List.sum_cons]; have := ih i; omega
theorem right5_fn (l : List GPiece) : Fn prog 115 [rowP l] (.bool (decide (rightG l))) := by
  refine fn_is func115 ntmps115 results115 rfl cfgOK mixed (cl1 (rowP_clean l)) ?_
  refine burst ?_
  refine sIf_intro (fun h => ?_) (fun h => ?_)
  · refine burst ?_
    refine ends frz_bool ?_
    have h := of_decide_eq_true h
    have : ¬ rightG l := fun q => by have := q.1; omega
    simp [this]
  · have hlen : l.length ≤ 4096 := by have := of_decide_eq_false h; omega
    refine burst ?_
    refine W_for l.length (fun i tm A => A = mk [] ∧ tget tm 0 = rowP l ∧ tget tm 4 = .int .i64 i ∧ tget tm 3 = .int .i64 (((l.take i).map fun p => p.put.length).sum : Nat) ∧ ((l.take i).map fun p => p.put.length).sum ≤ 1048576 ∧ ∀ p ∈ l.take i, 0 ≤ p.keep ∧ p.keep ≤ 1048576 ∧ 0 ≤ p.drop ∧ p.drop ≤ 1048576) ?_ 0 _ _ (by omega) ⟨rfl, look, look, look, by simp, by simp⟩
    rintro i tm A hi ⟨rfl, h0, h4, h3, hs, hf⟩ next
    clear h
    refine burst ?_
    refine sIf_intro (fun h => ?_) (fun h => ?_)
    · have hi1 : i < l.length := of_decide_eq_true h
      obtain ⟨x, e1⟩ : ∃ x, l[i]? = some x := ⟨_, get_some hi1⟩
      have hx : x ∈ l := List.mem_of_getElem? e1
      have hsum := sum_take e1 fun p => p.put.length
      have hle := sum_take_le l (fun p => p.put.length) (i + 1)
      generalize hn : ((l.take i).map fun p => p.put.length).sum = n at *
      have no : ¬ (0 ≤ x.keep ∧ x.keep ≤ 1048576 ∧ 0 ≤ x.drop ∧ x.drop ≤ 1048576 ∧ x.put.length ≤ 1048576 - n) → ¬ rightG l := fun h1 h2 => h1 ⟨(h2.2.1 x hx).1, (h2.2.1 x hx).2.1, (h2.2.1 x hx).2.2.1, (h2.2.1 x hx).2.2.2, by have := h2.2.2; omega⟩
      have hw1 : IntKind.i64.wrap (1048576 - (n : Int)) = 1048576 - (n : Int) := wrap_in (by omega) (by omega)
      refine burst ?_
      refine sGuardN_intro (fun q1 => ?_) (fun q1 => ?_)
      · have q1' := of_decide_eq_false q1
        refine burst ?_
        refine sGuardN_intro (fun q2 => ?_) (fun q2 => ?_)
        · have q2' := of_decide_eq_false q2
          refine burst ?_
          refine sGuardN_intro (fun q3 => ?_) (fun q3 => ?_)
          · have q3' := of_decide_eq_false q3
            refine burst ?_
            refine sGuardN_intro (fun q4 => ?_) (fun q4 => ?_)
            · have q4' := of_decide_eq_false q4
              refine burst ?_
              refine sIf_intro (fun q5 => ?_) (fun q5 => ?_)
              · refine burst ?_
                refine ends frz_bool ?_
                have q5' := of_decide_eq_true q5
                simp [no (by omega)]
              · have q5' := of_decide_eq_false q5
                have hw := wrap_succ (Nat.le_of_lt hi1) (by omega)
                have hw2 : IntKind.i64.wrap ((n : Int) + (x.put.length : Int)) = ((n + x.put.length : Nat) : Int) := by rw [wrap_in (by omega) (by omega)]; omega
                refine burst ?_
                refine next _ _ hi1 ⟨rfl, look, look, by rw [hsum]; exact look, by omega, fun y hy => ?_⟩
                rw [List.take_add_one, e1] at hy
                simp only [Option.toList, List.mem_append, List.mem_singleton] at hy
                rcases hy with hy | rfl
                · exact hf y hy
                · omega
            · refine burst ?_
              refine ends frz_bool ?_
              have q4' := of_decide_eq_true q4
              simp [no (by omega)]
          · refine burst ?_
            refine ends frz_bool ?_
            have q3' := of_decide_eq_true q3
            simp [no (by omega)]
        · refine burst ?_
          refine ends frz_bool ?_
          have q2' := of_decide_eq_true q2
          simp [no (by omega)]
      · refine burst ?_
        refine ends frz_bool ?_
        have q1' := of_decide_eq_true q1
        simp [no (by omega)]
    · have hi1 : ¬ i < l.length := of_decide_eq_false h
      refine burst ?_
      refine ends frz_bool ?_
      rw [List.take_of_length_le (by omega)] at hs hf
      have : rightG l := ⟨hlen, hf, hs⟩
      simp [this]
end Go.Ev
namespace Go.Ev
open Go Go.Proofs Tryz
open TP (Str)
set_option maxRecDepth 100000
set_option maxHeartbeats 4000000
def toP (p : GPiece) : TP.Piece := ⟨p.keep.toNat, p.drop.toNat, p.put⟩
theorem ext_snoc (l : List GPiece) {i : Nat} {x : GPiece} (h : l[i]? = some x) : TP.ext ((l.take (i + 1)).map toP) = TP.ext ((l.take i).map toP) + (x.keep.toNat + x.drop.toNat) := by
  rw [List.take_add_one, h]
  simp only [Option.toList, List.map_append, List.map_cons, List.map_nil, TP.ext_append]
  simp [TP.ext, toP]
theorem out_snoc (l : List GPiece) {i : Nat} {x : GPiece} (t : Str) (h : l[i]? = some x) : TP.outP ((l.take (i + 1)).map toP) t = TP.outP ((l.take i).map toP) t ++ (t.drop (TP.ext ((l.take i).map toP))).take x.keep.toNat ++ x.put := by
  rw [List.take_add_one, h]
  simp only [Option.toList, List.map_append, List.map_cons, List.map_nil, TP.outP_append]
  simp [TP.outP, toP]
theorem ext_take_le (l : List GPiece) : ∀ i, TP.ext ((l.take i).map toP) ≤ TP.ext (l.map toP) := by
  intro i
  have : l.map toP = (l.take i).map toP ++ (l.drop i).map toP := by rw [← List.map_append, List.take_append_drop]
  rw [this, TP.ext_append]; omega
theorem ext_bound {l : List GPiece} (h : ∀ p ∈ l, 0 ≤ p.keep ∧ p.keep ≤ 1048576 ∧ 0 ≤ p.drop ∧ p.drop ≤ 1048576) : TP.ext (l.map toP) ≤ l.length * 2097152 := by
  induction l with
  | nil => simp [TP.ext]
  | cons x l ih =>
    have h1 := h x (by simp)
    have h2 := ih fun p hp => h p (by simp [hp])
    simp only [List.map_cons, TP.ext, List.length_cons, toP]
    omega
theorem outP_len (l : List GPiece) (t : Str) : (TP.outP (l.map toP) t).length ≤ t.length * l.length + (l.map fun p => p.put.length).sum := by
  induction l generalizing t with
  | nil => simp [TP.outP]
  | cons x l ih =>
    have := ih (t.drop (x.keep.toNat + x.drop.toNat))
    have h2 : (t.drop (x.keep.toNat + x.drop.toNat)).length * l.length ≤ t.length * l.length := Nat.mul_le_mul_right _ (by simp)
    have h3 : (t.take x.keep.toNat).length ≤ t.length := by simp; omega
    simp only [List.map_cons, TP.outP, List.length_append, toP, List.sum_cons, List.length_cons, Nat.mul_succ]
    have e : (TP.outP (l.map toP) (t.drop (x.keep.toNat + x.drop.toNat))).length ≤ t.length * l.length + (l.map fun p => p.put.length).sum := by omega
    omega
theorem extent5_fn (l : List GPiece) (h : rightG l) : Fn prog 143 [rowP l] (.int .i64 (TP.ext (l.map toP))) := by
  refine fn_is func143 ntmps143 results143 rfl cfgOK mixed (cl1 (rowP_clean l)) ?_
  refine burst ?_
  refine W_for l.length (fun i tm A => A = mk [] ∧ tget tm 0 = rowP l ∧ tget tm 4 = .int .i64 i ∧ tget tm 3 = .int .i64 (TP.ext ((l.take i).map toP))) ?_ 0 _ _ (by omega) ⟨rfl, look, look, look⟩
  rintro i tm A hi ⟨rfl, h0, h4, h3⟩ next
  refine burst ?_
  refine sIf_intro (fun q => ?_) (fun q => ?_)
  · have hi1 : i < l.length := of_decide_eq_true q
    obtain ⟨x, e1⟩ : ∃ x, l[i]? = some x := ⟨_, get_some hi1⟩
    have hx := h.2.1 x (List.mem_of_getElem? e1)
    have hb := ext_bound h.2.1
    have hs := ext_snoc l e1
    have hle := ext_take_le l i
    have hlen := h.1
    generalize hn : TP.ext ((l.take i).map toP) = n at *
    have hw1 : IntKind.i64.wrap ((n : Int) + x.keep) = (n : Int) + x.keep := wrap_in (by omega) (by omega)
    have hw2 : IntKind.i64.wrap ((n : Int) + x.keep + x.drop) = (n : Int) + x.keep + x.drop := wrap_in (by omega) (by omega)
    have hw := wrap_succ (Nat.le_of_lt hi1) (by omega)
    refine burst ?_
    refine sDraw_seq cfgOK (by kernel_rfl) ?_
    refine burst ?_
    refine next _ _ hi1 ⟨rfl, look, look, ?_⟩
    rw [hs, show ((n + (x.keep.toNat + x.drop.toNat) : Nat) : Int) = (n : Int) + x.keep + x.drop by omega]
    exact look
  · have hi1 : ¬ i < l.length := of_decide_eq_false q
    refine burst ?_
    refine ends frz_int ?_
    rw [List.take_of_length_le (by omega)]
def app5 (t : Str) (l : List GPiece) : Str × Int := if rightG l then if TP.ext (l.map toP) ≤ t.length then (TP.edit (l.map toP) t, 0) else ([], 50) else ([], 2)
theorem apply5_fn (t : Str) (l : List GPiece) (ht : t.length ≤ 1099511627776) : Fn prog 76 [.string (bs t), rowP l] (.tuple #[.string (bs (app5 t l).1), .int .i64 (app5 t l).2]) := by
  refine fn_is func76 ntmps76 results76 rfl cfgOK mixed (cl2 rfl (rowP_clean l)) ?_
  refine burst ?_
  refine sCall_fn (right5_fn l) ?_
  refine burst ?_
  refine sIfN_intro (fun h => ?_) (fun h => ?_)
  · have h := of_decide_eq_false h
    refine burst ?_
    refine ends (v := .tuple #[.string (bs []), .int .i64 2]) (.clean rfl) ?_
    simp [app5, h]
  · have h := of_decide_eq_true h
    refine burst ?_
    refine sCall_fn (extent5_fn l h) ?_
    refine burst ?_
    refine sIf_intro (fun q => ?_) (fun q => ?_)
    · have q := of_decide_eq_true q
      refine burst ?_
      refine ends (v := .tuple #[.string (bs []), .int .i64 50]) (.clean rfl) ?_
      have : ¬ TP.ext (l.map toP) ≤ t.length := by omega
      simp [app5, h, this]
    · have hext : TP.ext (l.map toP) ≤ t.length := by have := of_decide_eq_false q; omega
      clear q
      refine burst ?_
      refine W_for l.length (fun i tm A => A = mk [] ∧ tget tm 1 = rowP l ∧ tget tm 7 = .int .i64 i ∧ tget tm 6 = .string (bs (TP.outP ((l.take i).map toP) t)) ∧ tget tm 0 = .string (bs (t.drop (TP.ext ((l.take i).map toP))))) ?_ 0 _ _ (by omega) ⟨rfl, look, look, look, look⟩
      rintro i tm A hi ⟨rfl, h1, h7, h6, h0⟩ next
      have hlen := h.1
      have hbnd : ∀ j, (TP.outP ((l.take j).map toP) t).length ≤ 4503599628419072 := fun j => by
        have q1 := outP_len (l.take j) t
        have q2 := sum_take_le l (fun p => p.put.length) j
        have q3 := h.2.2
        have q4 : t.length * (l.take j).length ≤ 1099511627776 * 4096 := Nat.mul_le_mul ht (by simp; omega)
        omega
      refine burst ?_
      refine sIf_intro (fun q => ?_) (fun q => ?_)
      · have hi1 : i < l.length := of_decide_eq_true q
        obtain ⟨x, e1⟩ : ∃ x, l[i]? = some x := ⟨_, get_some hi1⟩
        have hx := h.2.1 x (List.mem_of_getElem? e1)
        have hs := ext_snoc l e1
        have hle := ext_take_le l (i + 1)
        have ho := out_snoc l t e1
        have hb := hbnd (i + 1)
        obtain ⟨kp, hkp⟩ : ∃ kp : Nat, x.keep = kp := ⟨x.keep.toNat, by omega⟩
        obtain ⟨dr, hdr⟩ : ∃ dr : Nat, x.drop = dr := ⟨x.drop.toNat, by omega⟩
        have hput : x.put.length ≤ 1048576 := by have q1 := sum_take e1 (fun p => p.put.length); have q2 := sum_take_le l (fun p => p.put.length) (i + 1); have := h.2.2; omega
        generalize TP.ext ((l.take i).map toP) = n at *
        generalize TP.outP ((l.take i).map toP) t = out at *
        rw [ho] at hb
        rw [hkp, hdr] at hs hx
        rw [hkp] at ho hb
        simp only [Int.toNat_natCast] at hs ho hb
        have ha1 : aBin prog .add 9 (.string (bs out)) (.string (bs ((t.drop n).take kp))) = some (.string (bs (out ++ (t.drop n).take kp))) := aBin_sadd (by simp at hb ⊢; omega)
        have ha2 : aBin prog .add 9 (.string (bs (out ++ (t.drop n).take kp))) (.string (bs x.put)) = some (.string (bs (out ++ (t.drop n).take kp ++ x.put))) := aBin_sadd (by simp at hb ⊢; omega)
        have hw1 : IntKind.i64.wrap ((kp : Int) + (dr : Int)) = ((kp + dr : Nat) : Int) := by rw [wrap_in (by omega) (by omega)]; omega
        have hw := wrap_succ (Nat.le_of_lt hi1) (by omega)
        clear hb hbnd q
        refine burst ?_
        refine sDraw_seq cfgOK (by kernel_rfl) ?_
        refine burst ?_
        refine sSlice underlying9 seen (.inl ⟨rfl, rfl⟩) (.inr (congrArg some seen)) (Nat.zero_le _) (by simp; omega) ?_
        refine burst ?_
        refine sDraw_seq cfgOK (by kernel_rfl) ?_
        refine burst ?_
        refine sSlice underlying9 seen (.inr (congrArg some seen)) (.inl ⟨rfl, rfl⟩) (by simp; omega) (Nat.le_refl _) ?_
        refine burst ?_
        refine next _ _ hi1 ⟨rfl, look, look, ?_, ?_⟩
        · rw [ho]; exact look
        · rw [hs]
          refine Eq.trans look ?_
          rw [List.drop_drop]
      · have hi1 : ¬ i < l.length := of_decide_eq_false q
        rw [List.take_of_length_le (by omega)] at h6 h0
        have hb := hbnd l.length
        rw [List.take_of_length_le (Nat.le_refl _)] at hb
        have ha : aBin prog .add 9 (.string (bs (TP.outP (l.map toP) t))) (.string (bs (t.drop (TP.ext (l.map toP))))) = some (.string (bs (TP.edit (l.map toP) t))) := aBin_sadd (by simp; omega)
        refine burst ?_
        refine ends (v := .tuple #[.string (bs (TP.edit (l.map toP) t)), .int .i64 0]) (.clean rfl) ?_
        simp [app5, h, hext]
end Go.Ev
namespace Go.Ev
open Go Go.Proofs Tryz
open TP (Str Tree Nd)
set_option maxRecDepth 100000
set_option maxHeartbeats 4000000
def gapG (o : GOp) : Prop := 0 ≤ o.at_ ∧ o.at_ ≤ 1048576
instance (o : GOp) : Decidable (gapG o) := by unfold gapG; infer_instance
def keyG (s : Str) : Prop := 1 ≤ s.length ∧ s.length ≤ 64
instance (s : Str) : Decidable (keyG s) := by unfold keyG; infer_instance
def formK (o : GOp) : Prop :=
  if o.kind = 1 then gapG o ∧ o.label.length ≤ 64 else if o.kind = 2 then True else if o.kind = 3 then gapG o ∧ mayP o.to
    else if o.kind = 4 then keyG o.key ∧ (o.gone = true ∨ o.value.length ≤ 256) else if o.kind = 5 then o.label.length ≤ 64 else if o.kind = 6 then rightG o.pieces else False
instance (o : GOp) : Decidable (formK o) := by unfold formK; infer_instance
def formG (o : GOp) : Prop := mayP o.path ∧ formK o
instance (o : GOp) : Decidable (formG o) := by unfold formG; infer_instance
def lenG (o : GOp) : Prop := o.path.length < 4294967296 ∧ o.to.length < 4294967296
theorem formed8_fn (o : GOp) (hl : lenG o) : Fn prog 53 [vOp o] (.bool (decide (formG o))) := by
  obtain ⟨hl1, hl2⟩ := hl
  refine fn_is func53 ntmps53 results53 rfl cfgOK mixed (cl1 (vOp_clean o)) ?_
  refine burst ?_
  refine sCall_fn (may4_fn _ hl1) ?_
  refine burst ?_
  refine ifND (fun hm => ?_) (fun hm => ?_)
  · (repeat' (first | with_reducible refine ends_bool ?_ | with_reducible refine ends_int ?_ | with_reducible refine ifND (fun _ => ?_) (fun _ => ?_) | with_reducible refine ifD (fun _ => ?_) (fun _ => ?_) | with_reducible refine guardND (fun _ => ?_) (fun _ => ?_) | with_reducible refine guardD (fun _ => ?_) (fun _ => ?_) | with_reducible refine sIf_intro (fun _ => ?_) (fun _ => ?_) | with_reducible refine sGuard_intro (fun _ => ?_) (fun _ => ?_) | with_reducible refine sCall_fn (by assumption) ?_ | with_reducible refine sDraw_seq cfgOK (by kernel_rfl) ?_ | ((first | with_reducible show W _ _ (.code _ :: _) _ _ _ | with_reducible show wRun _ _ _ _ _ _ _ _ _); refine burst ?_)))
    simp [formG, hm]
  · rw [show decide (formG o) = decide (formK o) by simp [formG, hm]]
    clear hm
    refine burst ?_
    refine guard_cut (fun tm A => A = mk [AB.cells (opC o) 67 (0, 0)] ∧ tget tm 1 = .pointer (some ⟨0, 0, none⟩) ∧ tget tm 3 = .bool (decide (gapG o))) ?_ ?_
    · intro S hS
      (repeat' (first | with_reducible refine ends_bool ?_ | with_reducible refine ends_int ?_ | with_reducible refine ifND (fun _ => ?_) (fun _ => ?_) | with_reducible refine ifD (fun _ => ?_) (fun _ => ?_) | with_reducible refine guardND (fun _ => ?_) (fun _ => ?_) | with_reducible refine guardD (fun _ => ?_) (fun _ => ?_) | with_reducible refine sIf_intro (fun _ => ?_) (fun _ => ?_) | with_reducible refine sGuard_intro (fun _ => ?_) (fun _ => ?_) | with_reducible refine sCall_fn (by assumption) ?_ | with_reducible refine sDraw_seq cfgOK (by kernel_rfl) ?_ | ((first | with_reducible show W _ _ (.code _ :: _) _ _ _ | with_reducible show wRun _ _ _ _ _ _ _ _ _); refine burst ?_)))
      all_goals refine hS.to ⟨rfl, look, ?_⟩
      all_goals refine Eq.trans look ?_
      all_goals rw [Value.bool.injEq]
      all_goals unfold gapG
      · simp [*]
      · simp [*]
    · rintro tm A ⟨rfl, h1, h3⟩
      have c1 := may4_fn _ hl2
      have c2 := key6_fn o.key
      have c3 := right5_fn o.pieces
      cases hg : o.gone <;> (repeat' (first | with_reducible refine ends_bool ?_ | with_reducible refine ends_int ?_ | with_reducible refine ifND (fun _ => ?_) (fun _ => ?_) | with_reducible refine ifD (fun _ => ?_) (fun _ => ?_) | with_reducible refine guardND (fun _ => ?_) (fun _ => ?_) | with_reducible refine guardD (fun _ => ?_) (fun _ => ?_) | with_reducible refine sIf_intro (fun _ => ?_) (fun _ => ?_) | with_reducible refine sGuard_intro (fun _ => ?_) (fun _ => ?_) | with_reducible refine sCall_fn (by assumption) ?_ | with_reducible refine sDraw_seq cfgOK (by kernel_rfl) ?_ | ((first | with_reducible show W _ _ (.code _ :: _) _ _ _ | with_reducible show wRun _ _ _ _ _ _ _ _ _); refine burst ?_)))
      all_goals clear c1 c2 c3
      all_goals simp_all [formK, keyG]
      all_goals omega
end Go.Ev
namespace Go.Ev
open Go Go.Proofs Tryz
open TP (Str Tree Nd)
set_option maxRecDepth 100000
set_option maxHeartbeats 4000000
def toN (p : List Int) : List Nat := p.map Int.toNat
abbrev nodeL (T : Tree Nd) : List Value := [.int .u64 T.d.id, .bool T.d.leaf, .string (bs T.d.label), rowA T.d.attrs, .string (bs T.d.text), rowK T.kids]
def zeroT : Tree Nd := .mk ⟨0, false, [], [], []⟩ []
theorem zeroT_C : nodeC zeroT = [.int .u64 0, .bool false, .string ⟨#[]⟩, frow 0 [], .string ⟨#[]⟩, frow 0 []] := rfl
abbrev zeroL : List Value := [.int .u64 0, .bool false, .string ⟨#[]⟩, .slice none 0 0, .string ⟨#[]⟩, .slice none 0 0]
theorem zero_frz {A : AS} : FrzL A zeroL (nodeC zeroT) := by
  rw [zeroT_C]
  exact .cons (.clean rfl) (.cons (.clean rfl) (.cons (.clean rfl) (.cons .nil (.cons (.clean rfl) (.cons .nil (.clean rfl))))))
theorem at_snoc {p : List Int} {i : Nat} {x : Int} {T T' : Tree Nd} (h : p[i]? = some x) (ha : TP.at? (toN (p.take i)) T = some T') : TP.at? (toN (p.take (i + 1))) T = T'.kids[x.toNat]? := by
  rw [List.take_add_one, h]
  unfold toN at *
  simp only [Option.toList, List.map_append, List.map_cons, List.map_nil]
  have : ∀ (q : List Nat) (T : Tree Nd) (j : Nat), TP.at? (q ++ [j]) T = (TP.at? q T).bind fun T' => T'.kids[j]? := by
    intro q
    induction q with
    | nil => intro T j; simp [TP.at?]
    | cons a q ih => intro T j; simp only [List.cons_append, TP.at?]; cases T.kids[a]? with
      | none => rfl
      | some x => exact ih x j
  rw [this, ha]; rfl
theorem at_app : ∀ (q r : List Nat) (T : Tree Nd), TP.at? (q ++ r) T = (TP.at? q T).bind (TP.at? r)
  | [], r, T => by simp [TP.at?]
  | a :: q, r, T => by
    simp only [List.cons_append, TP.at?]
    cases T.kids[a]? with
    | none => rfl
    | some x => exact at_app q r x
theorem at_none {p : List Int} {i : Nat} {T : Tree Nd} (h : TP.at? (toN (p.take i)) T = none) : TP.at? (toN p) T = none := by
  rw [← List.take_append_drop i p]
  unfold toN at *
  rw [List.map_append, at_app, h]; rfl
theorem at6_fn (T : Tree Nd) (p : List Int) (h0 : ∀ x ∈ p, 0 ≤ x) (hp : p.length < 4294967296) : Fn prog 70 [vNode T, rowI p] (.tuple #[vNode ((TP.at? (toN p) T).getD zeroT), .bool (TP.at? (toN p) T).isSome]) := by
  refine fn_is func70 ntmps70 results70 rfl cfgOK mixed (cl2 (nodeC_clean T) (rowI_clean p)) ?_
  have e := nodeC_eq T
  refine burst ?_
  clear e
  refine W_for p.length (fun i tm A => ∃ T', A = mk [AB.cells (nodeL T') 26 (0, 0), AB.cells zeroL 26 (0, 0)] ∧ tget tm 1 = rowI p ∧ tget tm 2 = .pointer (some ⟨0, 0, none⟩) ∧ tget tm 4 = .pointer (some ⟨1, 0, none⟩) ∧ tget tm 6 = .int .i64 i ∧ TP.at? (toN (p.take i)) T = some T') ?_ 0 _ _ (by omega) ⟨T, rfl, look, look, look, look, rfl⟩
  rintro i tm A hi ⟨T', rfl, h1, h2, h4, h6, hat⟩ next
  have eL : nodeL T' = [.int .u64 T'.d.id, .bool T'.d.leaf, .string (bs T'.d.label), rowA T'.d.attrs, .string (bs T'.d.text), rowK T'.kids] := rfl
  refine burst ?_
  refine ifD (fun q => ?_) (fun q => ?_)
  · obtain ⟨x, e1⟩ : ∃ x, p[i]? = some x := ⟨_, get_some q⟩
    have hx := h0 x (List.mem_of_getElem? e1)
    have hs := at_snoc e1 hat
    obtain ⟨n, rfl⟩ := Int.eq_ofNat_of_zero_le hx
    clear h0 hat hx
    simp only [Int.toNat_natCast] at hs e1
    have hw := wrap_succ (Nat.le_of_lt q) (by omega)
    refine burst ?_
    refine sDraw_seq cfgOK (by kernel_rfl) ?_
    refine burst ?_
    refine guardND (fun q2 => ?_) (fun q2 => ?_)
    · refine burst ?_
      refine ifD (fun q3 => ?_) (fun q3 => ?_)
      · refine burst ?_
        refine ends (.tuple (.cons (.agg zero_frz) (.clean rfl))) ?_
        rw [at_none (by rw [hs, List.getElem?_eq_none q3])]; rfl
      · obtain ⟨y, e2⟩ : ∃ y, T'.kids[n]? = some y := ⟨_, get_some (by omega)⟩
        have hn : n < T'.kids.length := by omega
        rw [e2] at hs
        clear q2 q3
        refine burst ?_
        refine sDraw_seq cfgOK (by kernel_rfl) ?_
        refine burst ?_
        refine next _ _ q ⟨y, rfl, look, look, look, look, hs⟩
    · omega
  · rw [List.take_of_length_le (by omega)] at hat
    refine burst ?_
    refine ends (.clean ?_) ?_
    · exact nodeC_eq T' ▸ clean_tup (l := [vNode T', .bool true]) ▸ cleanL_cons (nodeC_clean T') rfl
    · exact congrArg (fun l => Value.tuple #[.agg l.toArray, .bool true]) (nodeC_eq T').symm
end Go.Ev
namespace Go.Ev
open Go Go.Proofs Tryz
open TP (Str Tree Nd)
set_option maxRecDepth 100000
set_option maxHeartbeats 4000000
theorem sameAttrs_fn (p q : List (Str × Str)) (hp : p.length < 4294967296) : Fn prog 35 [rowA p, rowA q] (.bool (decide (p = q))) := by
  refine fn_is func35 ntmps35 results35 rfl cfgOK mixed (cl2 (rowA_clean p) (rowA_clean q)) ?_
  refine burst ?_
  refine ifND (fun h => ?_) (fun h => ?_)
  · refine burst ?_
    refine ends_bool ?_
    have : p ≠ q := by rintro rfl; simp at h
    simp [this]
  · have hl : p.length = q.length := by simpa using h
    clear h
    refine burst ?_
    refine W_for p.length (fun i tm A => A = mk [] ∧ tget tm 0 = rowA p ∧ tget tm 1 = rowA q ∧ tget tm 5 = .int .i64 i ∧ p.take i = q.take i) ?_ 0 _ _ (by omega) ⟨rfl, look, look, look, rfl⟩
    rintro i tm A hi ⟨rfl, h0, h1, h5, ht⟩ next
    refine burst ?_
    refine ifD (fun h2 => ?_) (fun h2 => ?_)
    · obtain ⟨x, e1⟩ : ∃ x, p[i]? = some x := ⟨_, get_some (by omega)⟩
      obtain ⟨y, e2⟩ : ∃ y, q[i]? = some y := ⟨_, get_some (by omega)⟩
      have hlt : i < p.length := by omega
      have hlt2 : i < q.length := by omega
      have hw := wrap_succ (Nat.le_of_lt hlt) (by omega)
      clear h2
      refine burst ?_
      refine sDraw_seq cfgOK (by kernel_rfl) ?_
      refine burst ?_
      refine ifND (fun h3 => ?_) (fun h3 => ?_)
      · refine burst ?_
        refine ends_bool ?_
        have : p ≠ q := by
          rintro rfl
          rw [e1, Option.some.injEq] at e2
          exact h3 (by simp [e2])
        simp [this]
      · refine burst ?_
        refine next _ _ hlt ⟨rfl, look, look, look, ?_⟩
        have h3 : x = y := by cases x; cases y; simpa using h3
        rw [List.take_add_one, List.take_add_one, e1, e2, ht, h3]
    · refine burst ?_
      refine ends_bool ?_
      rw [List.take_of_length_le (by omega), List.take_of_length_le (by omega)] at ht
      simp [ht]
def bN (K L : Nat) (d : Nd) : Prop := d.attrs.length ≤ K ∧ d.text.length ≤ L ∧ d.label.length ≤ L ∧ ∀ a ∈ d.attrs, a.1.length ≤ L ∧ a.2.length ≤ L
inductive bT (K L : Nat) : Tree Nd → Prop where
  | mk {T : Tree Nd} : bN K L T.d → T.kids.length ≤ K → (∀ k ∈ T.kids, bT K L k) → bT K L T
theorem tree_ext {T U : Tree Nd} (h : T.d = U.d) (h2 : T.kids = U.kids) : T = U := by
  cases T; cases U; simp only [TP.Tree.d, TP.Tree.kids] at h h2; rw [h, h2]
theorem nd_ext {d e : Nd} (h1 : d.id = e.id) (h2 : d.leaf = e.leaf) (h3 : d.label = e.label) (h4 : d.attrs = e.attrs) (h5 : d.text = e.text) : d = e := by
  cases d; cases e; simp_all
open Classical in
theorem same6_fn {K L : Nat} (hK : K < 4294967296) {T : Tree Nd} (hT : bT K L T) : ∀ U, Fn prog 13 [vNode T, vNode U] (.bool (decide (T = U))) := by
  induction hT with
  | @mk T hd hk hkid ih =>
  intro U
  refine fn_is func13 ntmps13 results13 rfl cfgOK mixed (cl2 (nodeC_clean T) (nodeC_clean U)) ?_
  have c1 := sameAttrs_fn T.d.attrs U.d.attrs (by have := hd.1; omega)
  clear hd hkid
  (repeat' (first | with_reducible refine ends_bool ?_ | with_reducible refine ends_int ?_ | with_reducible refine ifND (fun _ => ?_) (fun _ => ?_) | with_reducible refine ifD (fun _ => ?_) (fun _ => ?_) | with_reducible refine guardND (fun _ => ?_) (fun _ => ?_) | with_reducible refine guardD (fun _ => ?_) (fun _ => ?_) | with_reducible refine sIf_intro (fun _ => ?_) (fun _ => ?_) | with_reducible refine sGuard_intro (fun _ => ?_) (fun _ => ?_) | with_reducible refine sCall_fn (by assumption) ?_ | with_reducible refine sDraw_seq cfgOK (by kernel_rfl) ?_ | ((first | with_reducible show W _ _ (.code _ :: _) _ _ _ | with_reducible show wRun _ _ _ _ _ _ _ _ _); refine burst ?_)))
  rotate_left
  case' mk.refine_1.refine_1.refine_1.refine_1.refine_1.refine_2 =>
    rename_i e1 e2 e3 e5 e4 e6
    have hd : T.d = U.d := nd_ext e1 e2 e3 e4 e5
    have hlen : T.kids.length = U.kids.length := e6
    have hTU : Hid (T.kids = U.kids → T = U) := ⟨tree_ext hd⟩
    replace ih := Hid.mk ih
    clear hd e1 e2 e3 e4 e5 e6 c1
    refine W_for T.kids.length (fun i tm A => A = mk [AB.cells [.int .u64 U.d.id, .bool U.d.leaf, .string (bs U.d.label), rowA U.d.attrs, .string (bs U.d.text), rowK T.kids] 26 (0, 0), AB.cells [.int .u64 U.d.id, .bool U.d.leaf, .string (bs U.d.label), rowA U.d.attrs, .string (bs U.d.text), rowK U.kids] 26 (0, 0)] ∧ tget tm 2 = .pointer (some ⟨0, 0, none⟩) ∧ tget tm 3 = .pointer (some ⟨1, 0, none⟩) ∧ tget tm 5 = .int .i64 i ∧ T.kids.take i = U.kids.take i) ?_ 0 _ _ (by omega) ⟨rfl, look, look, look, rfl⟩
    rintro i tm A hi ⟨rfl, h2, h3, h5, ht⟩ next
    refine burst ?_
    refine ifD (fun h => ?_) (fun h => ?_)
    · obtain ⟨x, k1⟩ : ∃ x, T.kids[i]? = some x := ⟨_, get_some (by omega)⟩
      obtain ⟨y, k2⟩ : ∃ y, U.kids[i]? = some y := ⟨_, get_some (by omega)⟩
      have hlt : i < T.kids.length := by omega
      have hlt2 : i < U.kids.length := by omega
      have hw := wrap_succ (Nat.le_of_lt hlt) (by omega)
      have c := ih.out x (List.mem_of_getElem? k1) y
      simp only [vNode, nodeC_eq] at c
      clear h
      (repeat' (first | with_reducible refine ends_bool ?_ | with_reducible refine ends_int ?_ | with_reducible refine ifND (fun _ => ?_) (fun _ => ?_) | with_reducible refine ifD (fun _ => ?_) (fun _ => ?_) | with_reducible refine guardND (fun _ => ?_) (fun _ => ?_) | with_reducible refine guardD (fun _ => ?_) (fun _ => ?_) | with_reducible refine sIf_intro (fun _ => ?_) (fun _ => ?_) | with_reducible refine sGuard_intro (fun _ => ?_) (fun _ => ?_) | with_reducible refine sCall_fn (by assumption) ?_ | with_reducible refine sDraw_seq cfgOK (by kernel_rfl) ?_ | ((first | with_reducible show W _ _ (.code _ :: _) _ _ _ | with_reducible show wRun _ _ _ _ _ _ _ _ _); refine burst ?_)))
      · refine (decide_eq_false ?_).symm
        rintro rfl
        simp_all
      · refine next _ _ hlt ⟨rfl, look, look, look, ?_⟩
        rename_i h
        rw [List.take_add_one, List.take_add_one, k1, k2, ht, h]
    · (repeat' (first | with_reducible refine ends_bool ?_ | with_reducible refine ends_int ?_ | with_reducible refine ifND (fun _ => ?_) (fun _ => ?_) | with_reducible refine ifD (fun _ => ?_) (fun _ => ?_) | with_reducible refine guardND (fun _ => ?_) (fun _ => ?_) | with_reducible refine guardD (fun _ => ?_) (fun _ => ?_) | with_reducible refine sIf_intro (fun _ => ?_) (fun _ => ?_) | with_reducible refine sGuard_intro (fun _ => ?_) (fun _ => ?_) | with_reducible refine sCall_fn (by assumption) ?_ | with_reducible refine sDraw_seq cfgOK (by kernel_rfl) ?_ | ((first | with_reducible show W _ _ (.code _ :: _) _ _ _ | with_reducible show wRun _ _ _ _ _ _ _ _ _); refine burst ?_)))
      rw [List.take_of_length_le (by omega), List.take_of_length_le (by omega)] at ht
      exact (decide_eq_true (hTU.out ht)).symm
  all_goals (refine (decide_eq_false ?_).symm; rintro rfl; simp_all)
end Go.Ev
namespace Go.Ev
open Go Go.Proofs Tryz
open TP (Str Tree Nd)
set_option maxRecDepth 100000
set_option maxHeartbeats 4000000
def attrOK (a : Str × Str) : Prop := 1 ≤ a.1.length ∧ a.1.length ≤ 64 ∧ a.2.length ≤ 256
def rT (T : Tree Nd) : Prop := ∀ p X, TP.at? p T = some X → TP.RightD X.d ∧ (X.d.leaf = true → X.kids = [])
theorem rT_iff {T : Tree Nd} : rT T ↔ (TP.RightD T.d ∧ (T.d.leaf = true → T.kids = [])) ∧ ∀ k ∈ T.kids, rT k := by
  constructor
  · intro h
    refine ⟨h [] T rfl, fun k hk p X hX => ?_⟩
    obtain ⟨i, hi, rfl⟩ := List.getElem_of_mem hk
    exact h (i :: p) X (by simp [TP.at?, List.getElem?_eq_getElem hi, hX])
  · rintro ⟨h1, h2⟩ p X hX
    cases p with
    | nil => cases hX; exact h1
    | cons i p =>
      simp only [TP.at?] at hX
      cases hk : T.kids[i]? with
      | none => rw [hk] at hX; cases hX
      | some k => rw [hk] at hX; exact h2 k (List.mem_of_getElem? hk) p X hX
theorem sorted_snoc {l : TP.Attrs} {i : Nat} {x : Str × Str} (h : l[i]? = some x) (hs : TP.Sorted (l.take i)) (hx : ∀ y, 0 < i → l[i - 1]? = some y → TP.blt y.1 x.1 = true) : TP.Sorted (l.take (i + 1)) := by
  rw [List.take_add_one, h]
  unfold TP.Sorted at *
  simp only [Option.toList]
  rw [List.pairwise_append]
  refine ⟨hs, List.pairwise_singleton _ _, fun a ha b hb => ?_⟩
  rw [List.mem_singleton] at hb
  subst hb
  obtain ⟨j, hj, rfl⟩ := List.getElem_of_mem ha
  have hlen : (l.take i).length = i := by
    have := (List.getElem?_eq_some_iff.1 h).1
    simp; omega
  have hi : i - 1 < (l.take i).length := by omega
  have hi2 : i - 1 < l.length := by have := (List.getElem?_eq_some_iff.1 h).1; omega
  have h1 := hx _ (by omega) (List.getElem?_eq_getElem hi2)
  rcases Nat.lt_or_ge j (i - 1) with h2 | h2
  · have := List.pairwise_iff_getElem.1 hs j (i - 1) hj hi h2
    refine TP.blt_trans this ?_
    rw [List.getElem_take]; exact h1
  · have : j = i - 1 := by omega
    subst this
    rw [List.getElem_take]; exact h1
theorem sorted_prev {l : TP.Attrs} {i : Nat} {x y : Str × Str} (hs : TP.Sorted l) (h : l[i + 1]? = some x) (h2 : l[i]? = some y) : TP.blt y.1 x.1 = true := by
  obtain ⟨h3, rfl⟩ := List.getElem?_eq_some_iff.1 h
  obtain ⟨h4, rfl⟩ := List.getElem?_eq_some_iff.1 h2
  exact List.pairwise_iff_getElem.1 hs i (i + 1) h4 h3 (by omega)
open Classical in
theorem right6_fn {K L : Nat} (hK : K < 4294967296) {T : Tree Nd} (hT : bT K L T) : Fn prog 68 [vNode T] (.bool (decide (rT T))) := by
  induction hT with
  | @mk T hd hk hkid ih =>
  replace ih := Hid.mk ih
  have hal := hd.1
  clear hd hkid
  have hr := Hid.mk (@rT_iff T)
  refine fn_is func68 ntmps68 results68 rfl cfgOK mixed (cl1 (nodeC_clean T)) ?_
  refine burst ?_
  refine guard_cut (fun tm A => A = mk [AB.cells (nodeL T) 26 (0, 0)] ∧ tget tm 1 = .pointer (some ⟨0, 0, none⟩) ∧ tget tm 28 = .bool (!decide (T.d.label.length ≤ 64 ∧ (T.d.leaf = true → T.kids = []) ∧ (T.d.leaf = false → T.d.text = [])))) ?_ ?_
  · intro S hS
    (repeat' (first | with_reducible refine ends_bool ?_ | with_reducible refine ends_int ?_ | with_reducible refine ifND (fun _ => ?_) (fun _ => ?_) | with_reducible refine ifD (fun _ => ?_) (fun _ => ?_) | with_reducible refine guardND (fun _ => ?_) (fun _ => ?_) | with_reducible refine guardD (fun _ => ?_) (fun _ => ?_) | with_reducible refine sIf_intro (fun _ => ?_) (fun _ => ?_) | with_reducible refine sGuard_intro (fun _ => ?_) (fun _ => ?_) | with_reducible refine sCall_fn (by assumption) ?_ | with_reducible refine sDraw_seq cfgOK (by kernel_rfl) ?_ | ((first | with_reducible show W _ _ (.code _ :: _) _ _ _ | with_reducible show wRun _ _ _ _ _ _ _ _ _); refine burst ?_)))
    all_goals refine hS.to ⟨by first | rfl | simp only [nodeL, *], look, ?_⟩
    all_goals refine Eq.trans look ?_
    all_goals rw [Value.bool.injEq]
    all_goals simp_all
    all_goals first | omega | skip
    exact .inr (List.length_pos_iff.1 (by assumption))
  rintro tm A ⟨rfl, h1, h28⟩
  have eL : nodeL T = [.int .u64 T.d.id, .bool T.d.leaf, .string (bs T.d.label), rowA T.d.attrs, .string (bs T.d.text), rowK T.kids] := rfl
  refine burst ?_
  refine ifND (fun h => ?_) (fun h => ?_)
  · refine burst ?_
    refine ends_bool ?_
    refine (decide_eq_false fun hrt => h ?_).symm
    have := (hr.out.1 hrt).1
    exact ⟨this.1.1, this.2, this.1.2.1⟩
  replace h := Hid.mk h
  clear h28
  refine burst ?_
  refine W_for T.d.attrs.length (fun i tm A => A = mk [AB.cells (nodeL T) 26 (0, 0)] ∧ tget tm 1 = .pointer (some ⟨0, 0, none⟩) ∧ tget tm 3 = .int .i64 i ∧ Hid (TP.Sorted (T.d.attrs.take i) ∧ ∀ a ∈ T.d.attrs.take i, attrOK a)) ?_ 0 _ _ (by omega) ⟨rfl, look, look, ⟨by simp [TP.Sorted], by simp⟩⟩
  rintro i tm A hi ⟨rfl, h1, h3, hs⟩ next
  refine burst ?_
  refine ifD (fun q => ?_) (fun q => ?_)
  · obtain ⟨x, e1⟩ : ∃ x, T.d.attrs[i]? = some x := ⟨_, get_some q⟩
    obtain ⟨y, e2⟩ : ∃ y, T.d.attrs[i - 1]? = some y := ⟨_, get_some (by omega)⟩
    have c := key6_fn x.1
    have hp : 0 < (i : Int) → IntKind.i64.wrap ((i : Int) - 1) = ((i - 1 : Nat) : Int) := fun h => by rw [wrap_in (by omega) (by omega)]; omega
    have hw := wrap_succ (Nat.le_of_lt q) (by omega)
    refine burst ?_
    refine sDraw_seq cfgOK (by kernel_rfl) ?_
    refine burst ?_
    refine sCall_fn (by assumption) ?_
    refine burst ?_
    refine guard_cut (fun tm A => A = mk [AB.cells (nodeL T) 26 (0, 0)] ∧ tget tm 1 = .pointer (some ⟨0, 0, none⟩) ∧ tget tm 3 = .int .i64 i ∧ tget tm 73 = .bool (!decide (attrOK x ∧ (0 < i → TP.blt y.1 x.1 = true)))) ?_ ?_
    · intro S hS
      replace next := Hid.mk next
      have hlt1 : i - 1 < T.d.attrs.length := by omega
      (repeat' (first | with_reducible refine ends_bool ?_ | with_reducible refine ends_int ?_ | with_reducible refine ifND (fun _ => ?_) (fun _ => ?_) | with_reducible refine ifD (fun _ => ?_) (fun _ => ?_) | with_reducible refine guardND (fun _ => ?_) (fun _ => ?_) | with_reducible refine guardD (fun _ => ?_) (fun _ => ?_) | with_reducible refine sIf_intro (fun _ => ?_) (fun _ => ?_) | with_reducible refine sGuard_intro (fun _ => ?_) (fun _ => ?_) | with_reducible refine sCall_fn (by assumption) ?_ | with_reducible refine sDraw_seq cfgOK (by kernel_rfl) ?_ | ((first | with_reducible show W _ _ (.code _ :: _) _ _ _ | with_reducible show wRun _ _ _ _ _ _ _ _ _); refine burst ?_)))
      all_goals refine hS.to ⟨rfl, look, look, ?_⟩
      all_goals refine Eq.trans look ?_
      all_goals rw [Value.bool.injEq]
      all_goals clear next hp
      all_goals unfold attrOK
      all_goals simp_all
      all_goals first | omega | (intro h0; exact absurd h0 (by omega)) | (exact .inl (by omega)) | (by_cases h0 : x.1 = [] <;> first | (simp [h0]; done) | exact .inl (.inr (.inl (by have := List.length_pos_iff.2 h0; omega)))) | grind
    rintro tm A ⟨rfl, h1, h3, h73⟩
    refine burst ?_
    refine ifND (fun g => ?_) (fun g => ?_)
    · refine burst ?_
      refine ends_bool ?_
      refine (decide_eq_false fun hrt => g ?_).symm
      have hr := (hr.out.1 hrt).1.1
      refine ⟨hr.2.2.2 x (List.mem_of_getElem? e1), fun h0 => ?_⟩
      obtain ⟨j, rfl⟩ : ∃ j, i = j + 1 := ⟨i - 1, by omega⟩
      exact sorted_prev hr.2.2.1 e1 e2
    · replace g := Hid.mk g
      refine burst ?_
      refine next _ _ q ⟨rfl, look, look, ⟨sorted_snoc e1 hs.out.1 fun y' h0 hy => ?_, fun a ha => ?_⟩⟩
      · rw [e2] at hy; cases hy; exact g.out.2 h0
      · rw [List.take_add_one, e1] at ha
        simp only [Option.toList, List.mem_append, List.mem_singleton] at ha
        rcases ha with ha | rfl
        · exact hs.out.2 a ha
        · exact g.out.1
  · rw [List.take_of_length_le (by omega)] at hs
    clear q next
    refine burst ?_
    refine W_for T.kids.length (fun i tm A => A = mk [AB.cells (nodeL T) 26 (0, 0)] ∧ tget tm 1 = .pointer (some ⟨0, 0, none⟩) ∧ tget tm 4 = .int .i64 i ∧ Hid (∀ k ∈ T.kids.take i, rT k)) ?_ 0 _ _ (by omega) ⟨rfl, look, look, ⟨by simp⟩⟩
    clear h3 h1
    rintro i tm A hi ⟨rfl, h1, h3, hf⟩ next
    refine burst ?_
    refine ifD (fun q => ?_) (fun q => ?_)
    · obtain ⟨x, e1⟩ : ∃ x, T.kids[i]? = some x := ⟨_, get_some q⟩
      have hw := wrap_succ (Nat.le_of_lt q) (by omega)
      have c := ih.out x (List.mem_of_getElem? e1)
      simp only [vNode, nodeC_eq] at c
      replace next := Hid.mk next
      (repeat' (first | with_reducible refine ends_bool ?_ | with_reducible refine ends_int ?_ | with_reducible refine ifND (fun _ => ?_) (fun _ => ?_) | with_reducible refine ifD (fun _ => ?_) (fun _ => ?_) | with_reducible refine guardND (fun _ => ?_) (fun _ => ?_) | with_reducible refine guardD (fun _ => ?_) (fun _ => ?_) | with_reducible refine sIf_intro (fun _ => ?_) (fun _ => ?_) | with_reducible refine sGuard_intro (fun _ => ?_) (fun _ => ?_) | with_reducible refine sCall_fn (by assumption) ?_ | with_reducible refine sDraw_seq cfgOK (by kernel_rfl) ?_ | ((first | with_reducible show W _ _ (.code _ :: _) _ _ _ | with_reducible show wRun _ _ _ _ _ _ _ _ _); refine burst ?_)))
      · refine (decide_eq_false fun hrt => ?_).symm
        have := (hr.out.1 hrt).2 x (List.mem_of_getElem? e1)
        contradiction
      · rename_i hx
        refine next.out _ _ q ⟨rfl, look, look, ⟨fun k hk => ?_⟩⟩
        rw [List.take_add_one, e1] at hk
        simp only [Option.toList, List.mem_append, List.mem_singleton] at hk
        rcases hk with hk | rfl
        · exact hf.out k hk
        · exact hx
    · rw [List.take_of_length_le (by omega)] at hf
      (repeat' (first | with_reducible refine ends_bool ?_ | with_reducible refine ends_int ?_ | with_reducible refine ifND (fun _ => ?_) (fun _ => ?_) | with_reducible refine ifD (fun _ => ?_) (fun _ => ?_) | with_reducible refine guardND (fun _ => ?_) (fun _ => ?_) | with_reducible refine guardD (fun _ => ?_) (fun _ => ?_) | with_reducible refine sIf_intro (fun _ => ?_) (fun _ => ?_) | with_reducible refine sGuard_intro (fun _ => ?_) (fun _ => ?_) | with_reducible refine sCall_fn (by assumption) ?_ | with_reducible refine sDraw_seq cfgOK (by kernel_rfl) ?_ | ((first | with_reducible show W _ _ (.code _ :: _) _ _ _ | with_reducible show wRun _ _ _ _ _ _ _ _ _); refine burst ?_)))
      refine (decide_eq_true (hr.out.2 ⟨⟨⟨h.out.1, h.out.2.2, hs.out.1, hs.out.2⟩, h.out.2.1⟩, hf.out⟩)).symm
end Go.Ev
namespace Go.Ev
open Go Go.Proofs Tryz
open TP (Str Tree Nd)
set_option maxRecDepth 100000
set_option maxHeartbeats 4000000
theorem bT.d {K L : Nat} {T : Tree Nd} : bT K L T → bN K L T.d | .mk h _ _ => h
theorem bT.len {K L : Nat} {T : Tree Nd} : bT K L T → T.kids.length ≤ K | .mk _ h _ => h
theorem bT.kid {K L : Nat} {T : Tree Nd} : bT K L T → ∀ k ∈ T.kids, bT K L k | .mk _ _ h => h
theorem bT.at {K L : Nat} : ∀ {p : List Nat} {T X : Tree Nd}, bT K L T → TP.at? p T = some X → bT K L X
  | [], T, X, h, hx => by cases hx; exact h
  | i :: p, T, X, h, hx => by
    simp only [TP.at?] at hx
    cases hk : T.kids[i]? with
    | none => rw [hk] at hx; cases hx
    | some k => rw [hk] at hx; exact (h.kid k (List.mem_of_getElem? hk)).at hx
open Classical in
theorem right31_fn {K L : Nat} (hK : K < 4294967296) {T : Tree Nd} (hT : bT K L T) : Fn prog 31 [vNode T] (.bool (decide (TP.RightT T))) := by
  refine fn_is func31 ntmps31 results31 rfl cfgOK mixed (cl1 (nodeC_clean T)) ?_
  have c := right6_fn hK hT
  simp only [vNode, nodeC_eq] at c
  have e := Hid.mk (show TP.RightT T ↔ T.d.leaf = false ∧ rT T from Iff.rfl)
  clear hT
  cases hl : T.d.leaf <;> rw [hl] at c <;> (repeat' (first | with_reducible refine ends_bool ?_ | with_reducible refine ends_int ?_ | with_reducible refine ifND (fun _ => ?_) (fun _ => ?_) | with_reducible refine ifD (fun _ => ?_) (fun _ => ?_) | with_reducible refine guardND (fun _ => ?_) (fun _ => ?_) | with_reducible refine guardD (fun _ => ?_) (fun _ => ?_) | with_reducible refine sIf_intro (fun _ => ?_) (fun _ => ?_) | with_reducible refine sGuard_intro (fun _ => ?_) (fun _ => ?_) | with_reducible refine sCall_fn (by assumption) ?_ | with_reducible refine sDraw_seq cfgOK (by kernel_rfl) ?_ | ((first | with_reducible show W _ _ (.code _ :: _) _ _ _ | with_reducible show wRun _ _ _ _ _ _ _ _ _); refine burst ?_)))
  · rw [decide_eq_decide, e.out, hl]; simp
  · refine (decide_eq_false fun h => ?_).symm
    have := (e.out.1 h).1
    simp_all
def intoG (x : Tree Nd) (g : Int) : Int := if x.d.leaf = true then 83 else if (x.kids.length : Int) < g then 81 else 0
theorem into_fn (T : Tree Nd) (g : Int) : Fn prog 138 [vNode T, .int .i64 g] (.int .i64 (intoG T g)) := by
  refine fn_is func138 ntmps138 results138 rfl cfgOK mixed (cl2 (nodeC_clean T) rfl) ?_
  cases hl : T.d.leaf <;> (repeat' (first | with_reducible refine ends_bool ?_ | with_reducible refine ends_int ?_ | with_reducible refine ifND (fun _ => ?_) (fun _ => ?_) | with_reducible refine ifD (fun _ => ?_) (fun _ => ?_) | with_reducible refine guardND (fun _ => ?_) (fun _ => ?_) | with_reducible refine guardD (fun _ => ?_) (fun _ => ?_) | with_reducible refine sIf_intro (fun _ => ?_) (fun _ => ?_) | with_reducible refine sGuard_intro (fun _ => ?_) (fun _ => ?_) | with_reducible refine sCall_fn (by assumption) ?_ | with_reducible refine sDraw_seq cfgOK (by kernel_rfl) ?_ | ((first | with_reducible show W _ _ (.code _ :: _) _ _ _ | with_reducible show wRun _ _ _ _ _ _ _ _ _); refine burst ?_))) <;> simp_all [intoG]
open Classical in
noncomputable def valG (T : Tree Nd) (o : GOp) : Int :=
  if ¬ TP.RightT T then 2 else if ¬ formG o then 80 else if (o.kind = 2 ∨ o.kind = 3) ∧ o.path = [] then 82 else
  match TP.at? (toN o.path) T with
  | none => 81
  | some x => if o.kind = 1 then intoG x o.at_ else if o.kind = 3 then (if o.path <+: o.to then 84 else match TP.at? (toN o.to) T with | none => 81 | some y => intoG y o.at_)
    else if o.kind = 6 then (if x.d.leaf = false then 83 else (app5 x.d.text o.pieces).2) else 0
theorem valid_fn {K L : Nat} (hK : K < 4294967296) (hL : L ≤ 1099511627776) {T : Tree Nd} (hT : bT K L T) (o : GOp) (ho : lenG o) : Fn prog 69 [vNode T, vOp o] (.int .i64 (valG T o)) := by
  refine fn_is func69 ntmps69 results69 rfl cfgOK mixed (cl2 (nodeC_clean T) (vOp_clean o)) ?_
  have c := right31_fn hK hT
  have c2 := formed8_fn o ho
  simp only [vNode, nodeC_eq] at c
  simp only [vOp, opC] at c2
  replace hT := Hid.mk hT
  replace ho := Hid.mk ho
  refine burst ?_
  refine sCall_fn (by assumption) ?_
  refine burst ?_
  refine ifND (fun h1 => ?_) (fun h1 => ?_)
  · (repeat' (first | with_reducible refine ends_bool ?_ | with_reducible refine ends_int ?_ | with_reducible refine ifND (fun _ => ?_) (fun _ => ?_) | with_reducible refine ifD (fun _ => ?_) (fun _ => ?_) | with_reducible refine guardND (fun _ => ?_) (fun _ => ?_) | with_reducible refine guardD (fun _ => ?_) (fun _ => ?_) | with_reducible refine sIf_intro (fun _ => ?_) (fun _ => ?_) | with_reducible refine sGuard_intro (fun _ => ?_) (fun _ => ?_) | with_reducible refine sCall_fn (by assumption) ?_ | with_reducible refine sDraw_seq cfgOK (by kernel_rfl) ?_ | ((first | with_reducible show W _ _ (.code _ :: _) _ _ _ | with_reducible show wRun _ _ _ _ _ _ _ _ _); refine burst ?_)))
    simp [valG, h1]
  refine burst ?_
  refine sCall_fn (by assumption) ?_
  refine burst ?_
  refine ifND (fun h2 => ?_) (fun h2 => ?_)
  · (repeat' (first | with_reducible refine ends_bool ?_ | with_reducible refine ends_int ?_ | with_reducible refine ifND (fun _ => ?_) (fun _ => ?_) | with_reducible refine ifD (fun _ => ?_) (fun _ => ?_) | with_reducible refine guardND (fun _ => ?_) (fun _ => ?_) | with_reducible refine guardD (fun _ => ?_) (fun _ => ?_) | with_reducible refine sIf_intro (fun _ => ?_) (fun _ => ?_) | with_reducible refine sGuard_intro (fun _ => ?_) (fun _ => ?_) | with_reducible refine sCall_fn (by assumption) ?_ | with_reducible refine sDraw_seq cfgOK (by kernel_rfl) ?_ | ((first | with_reducible show W _ _ (.code _ :: _) _ _ _ | with_reducible show wRun _ _ _ _ _ _ _ _ _); refine burst ?_)))
    simp [valG, h1, h2]
  have hv : Hid (valG T o = if (o.kind = 2 ∨ o.kind = 3) ∧ o.path = [] then 82 else
  match TP.at? (toN o.path) T with
  | none => 81
  | some x => if o.kind = 1 then intoG x o.at_ else if o.kind = 3 then (if o.path <+: o.to then 84 else match TP.at? (toN o.to) T with | none => 81 | some y => intoG y o.at_)
    else if o.kind = 6 then (if x.d.leaf = false then 83 else (app5 x.d.text o.pieces).2) else 0) := ⟨by simp [valG, h1, h2]⟩
  replace h2 := Hid.mk h2
  clear h1 c c2
  refine burst ?_
  refine guard_cut (fun tm A => A = mk [AB.cells (nodeL T) 26 (0, 0), AB.cells (opC o) 67 (0, 0)] ∧ tget tm 2 = .pointer (some ⟨0, 0, none⟩) ∧ tget tm 3 = .pointer (some ⟨1, 0, none⟩) ∧ tget tm 30 = .bool (decide ((o.kind = 2 ∨ o.kind = 3) ∧ o.path = []))) ?_ ?_
  · intro S hS
    (repeat' (first | with_reducible refine ends_bool ?_ | with_reducible refine ends_int ?_ | with_reducible refine ifND (fun _ => ?_) (fun _ => ?_) | with_reducible refine ifD (fun _ => ?_) (fun _ => ?_) | with_reducible refine guardND (fun _ => ?_) (fun _ => ?_) | with_reducible refine guardD (fun _ => ?_) (fun _ => ?_) | with_reducible refine sIf_intro (fun _ => ?_) (fun _ => ?_) | with_reducible refine sGuard_intro (fun _ => ?_) (fun _ => ?_) | with_reducible refine sCall_fn (by assumption) ?_ | with_reducible refine sDraw_seq cfgOK (by kernel_rfl) ?_ | ((first | with_reducible show W _ _ (.code _ :: _) _ _ _ | with_reducible show wRun _ _ _ _ _ _ _ _ _); refine burst ?_)))
    all_goals refine hS.to ⟨by first | rfl | simp only [nodeL, opC, *], look, look, ?_⟩
    all_goals refine Eq.trans look ?_
    all_goals rw [Value.bool.injEq]
    all_goals simp_all
  rintro tm A ⟨rfl, a2, a3, a30⟩
  have eL : nodeL T = [.int .u64 T.d.id, .bool T.d.leaf, .string (bs T.d.label), rowA T.d.attrs, .string (bs T.d.text), rowK T.kids] := rfl
  refine burst ?_
  refine ifD (fun h3 => ?_) (fun h3 => ?_)
  · replace h3 := Hid.mk h3
    (repeat' (first | with_reducible refine ends_bool ?_ | with_reducible refine ends_int ?_ | with_reducible refine ifND (fun _ => ?_) (fun _ => ?_) | with_reducible refine ifD (fun _ => ?_) (fun _ => ?_) | with_reducible refine guardND (fun _ => ?_) (fun _ => ?_) | with_reducible refine guardD (fun _ => ?_) (fun _ => ?_) | with_reducible refine sIf_intro (fun _ => ?_) (fun _ => ?_) | with_reducible refine sGuard_intro (fun _ => ?_) (fun _ => ?_) | with_reducible refine sCall_fn (by assumption) ?_ | with_reducible refine sDraw_seq cfgOK (by kernel_rfl) ?_ | ((first | with_reducible show W _ _ (.code _ :: _) _ _ _ | with_reducible show wRun _ _ _ _ _ _ _ _ _); refine burst ?_)))
    rw [hv.out, if_pos h3.out]
  replace h3 := Hid.mk h3
  clear a30
  have c := at6_fn T o.path (fun x hx => (h2.out.1.2 x hx).1) ho.out.1
  cases hx : TP.at? (toN o.path) T with
  | none =>
    rw [hx] at c hv
    simp only [Option.getD_none, Option.isSome_none, vNode, nodeC_eq] at c
    clear hx
    (repeat' (first | with_reducible refine ends_bool ?_ | with_reducible refine ends_int ?_ | with_reducible refine ifND (fun _ => ?_) (fun _ => ?_) | with_reducible refine ifD (fun _ => ?_) (fun _ => ?_) | with_reducible refine guardND (fun _ => ?_) (fun _ => ?_) | with_reducible refine guardD (fun _ => ?_) (fun _ => ?_) | with_reducible refine sIf_intro (fun _ => ?_) (fun _ => ?_) | with_reducible refine sGuard_intro (fun _ => ?_) (fun _ => ?_) | with_reducible refine sCall_fn (by assumption) ?_ | with_reducible refine sDraw_seq cfgOK (by kernel_rfl) ?_ | ((first | with_reducible show W _ _ (.code _ :: _) _ _ _ | with_reducible show wRun _ _ _ _ _ _ _ _ _); refine burst ?_)))
    rw [hv.out, if_neg h3.out]
  | some x =>
    rw [hx] at c hv
    have c4 := into_fn x o.at_
    simp only [Option.getD_some, Option.isSome_some, vNode, nodeC_eq] at c c4
    replace hx := Hid.mk hx
    have hv : Hid (valG T o = if o.kind = 1 then intoG x o.at_ else if o.kind = 3 then (if o.path <+: o.to then 84 else match TP.at? (toN o.to) T with | none => 81 | some y => intoG y o.at_)
      else if o.kind = 6 then (if x.d.leaf = false then 83 else (app5 x.d.text o.pieces).2) else 0) := ⟨by rw [hv.out, if_neg h3.out]⟩
    refine burst ?_
    refine sCall_fn (by assumption) ?_
    refine burst ?_
    clear c
    refine ifD (fun k1 => ?_) (fun k1 => ?_)
    · (repeat' (first | with_reducible refine ends_bool ?_ | with_reducible refine ends_int ?_ | with_reducible refine ifND (fun _ => ?_) (fun _ => ?_) | with_reducible refine ifD (fun _ => ?_) (fun _ => ?_) | with_reducible refine guardND (fun _ => ?_) (fun _ => ?_) | with_reducible refine guardD (fun _ => ?_) (fun _ => ?_) | with_reducible refine sIf_intro (fun _ => ?_) (fun _ => ?_) | with_reducible refine sGuard_intro (fun _ => ?_) (fun _ => ?_) | with_reducible refine sCall_fn (by assumption) ?_ | with_reducible refine sDraw_seq cfgOK (by kernel_rfl) ?_ | ((first | with_reducible show W _ _ (.code _ :: _) _ _ _ | with_reducible show wRun _ _ _ _ _ _ _ _ _); refine burst ?_)))
      rw [hv.out, if_pos k1]
    refine burst ?_
    refine ifD (fun k3 => ?_) (fun k3 => ?_)
    · have c5 := within4_fn o.path o.to ho.out.1
      have hto : Hid (∀ x ∈ o.to, 0 ≤ x) := ⟨fun x hx => by
        have h := h2.out.2
        unfold formK at h
        rw [if_neg k1, if_neg (by omega), if_pos k3] at h
        exact (h.2.2 x hx).1⟩
      replace hv := Hid.mk (hv.out.trans ((if_neg k1).trans (if_pos k3)))
      refine burst ?_
      refine sCall_fn (by assumption) ?_
      refine burst ?_
      refine ifD (fun k4 => ?_) (fun k4 => ?_)
      · (repeat' (first | with_reducible refine ends_bool ?_ | with_reducible refine ends_int ?_ | with_reducible refine ifND (fun _ => ?_) (fun _ => ?_) | with_reducible refine ifD (fun _ => ?_) (fun _ => ?_) | with_reducible refine guardND (fun _ => ?_) (fun _ => ?_) | with_reducible refine guardD (fun _ => ?_) (fun _ => ?_) | with_reducible refine sIf_intro (fun _ => ?_) (fun _ => ?_) | with_reducible refine sGuard_intro (fun _ => ?_) (fun _ => ?_) | with_reducible refine sCall_fn (by assumption) ?_ | with_reducible refine sDraw_seq cfgOK (by kernel_rfl) ?_ | ((first | with_reducible show W _ _ (.code _ :: _) _ _ _ | with_reducible show wRun _ _ _ _ _ _ _ _ _); refine burst ?_)))
        rw [hv.out, if_pos k4]
      replace hv := Hid.mk (hv.out.trans (if_neg k4))
      have c := at6_fn T o.to hto.out ho.out.2
      cases hy : TP.at? (toN o.to) T with
      | none =>
        rw [hy] at c hv
        simp only [Option.getD_none, Option.isSome_none, vNode, nodeC_eq] at c
        clear hy
        (repeat' (first | with_reducible refine ends_bool ?_ | with_reducible refine ends_int ?_ | with_reducible refine ifND (fun _ => ?_) (fun _ => ?_) | with_reducible refine ifD (fun _ => ?_) (fun _ => ?_) | with_reducible refine guardND (fun _ => ?_) (fun _ => ?_) | with_reducible refine guardD (fun _ => ?_) (fun _ => ?_) | with_reducible refine sIf_intro (fun _ => ?_) (fun _ => ?_) | with_reducible refine sGuard_intro (fun _ => ?_) (fun _ => ?_) | with_reducible refine sCall_fn (by assumption) ?_ | with_reducible refine sDraw_seq cfgOK (by kernel_rfl) ?_ | ((first | with_reducible show W _ _ (.code _ :: _) _ _ _ | with_reducible show wRun _ _ _ _ _ _ _ _ _); refine burst ?_)))
        rw [hv.out]
      | some y =>
        rw [hy] at c hv
        have c4 := into_fn y o.at_
        simp only [Option.getD_some, Option.isSome_some, vNode, nodeC_eq] at c c4
        clear hy
        (repeat' (first | with_reducible refine ends_bool ?_ | with_reducible refine ends_int ?_ | with_reducible refine ifND (fun _ => ?_) (fun _ => ?_) | with_reducible refine ifD (fun _ => ?_) (fun _ => ?_) | with_reducible refine guardND (fun _ => ?_) (fun _ => ?_) | with_reducible refine guardD (fun _ => ?_) (fun _ => ?_) | with_reducible refine sIf_intro (fun _ => ?_) (fun _ => ?_) | with_reducible refine sGuard_intro (fun _ => ?_) (fun _ => ?_) | with_reducible refine sCall_fn (by assumption) ?_ | with_reducible refine sDraw_seq cfgOK (by kernel_rfl) ?_ | ((first | with_reducible show W _ _ (.code _ :: _) _ _ _ | with_reducible show wRun _ _ _ _ _ _ _ _ _); refine burst ?_)))
        rw [hv.out]
    refine burst ?_
    refine ifD (fun k6 => ?_) (fun k6 => ?_)
    · have ht : Hid (x.d.text.length ≤ 1099511627776) := ⟨by have := (hT.out.at hx.out).d.2.1; omega⟩
      have c5 := apply5_fn x.d.text o.pieces ht.out
      replace hv := Hid.mk (hv.out.trans ((if_neg k1).trans ((if_neg k3).trans (if_pos k6))))
      cases hl : x.d.leaf
      · rw [hl] at hv
        (repeat' (first | with_reducible refine ends_bool ?_ | with_reducible refine ends_int ?_ | with_reducible refine ifND (fun _ => ?_) (fun _ => ?_) | with_reducible refine ifD (fun _ => ?_) (fun _ => ?_) | with_reducible refine guardND (fun _ => ?_) (fun _ => ?_) | with_reducible refine guardD (fun _ => ?_) (fun _ => ?_) | with_reducible refine sIf_intro (fun _ => ?_) (fun _ => ?_) | with_reducible refine sGuard_intro (fun _ => ?_) (fun _ => ?_) | with_reducible refine sCall_fn (by assumption) ?_ | with_reducible refine sDraw_seq cfgOK (by kernel_rfl) ?_ | ((first | with_reducible show W _ _ (.code _ :: _) _ _ _ | with_reducible show wRun _ _ _ _ _ _ _ _ _); refine burst ?_)))
        rw [hv.out]; rfl
      · rw [hl] at hv
        (repeat' (first | with_reducible refine ends_bool ?_ | with_reducible refine ends_int ?_ | with_reducible refine ifND (fun _ => ?_) (fun _ => ?_) | with_reducible refine ifD (fun _ => ?_) (fun _ => ?_) | with_reducible refine guardND (fun _ => ?_) (fun _ => ?_) | with_reducible refine guardD (fun _ => ?_) (fun _ => ?_) | with_reducible refine sIf_intro (fun _ => ?_) (fun _ => ?_) | with_reducible refine sGuard_intro (fun _ => ?_) (fun _ => ?_) | with_reducible refine sCall_fn (by assumption) ?_ | with_reducible refine sDraw_seq cfgOK (by kernel_rfl) ?_ | ((first | with_reducible show W _ _ (.code _ :: _) _ _ _ | with_reducible show wRun _ _ _ _ _ _ _ _ _); refine burst ?_)))
        rw [hv.out]; rfl
    · (repeat' (first | with_reducible refine ends_bool ?_ | with_reducible refine ends_int ?_ | with_reducible refine ifND (fun _ => ?_) (fun _ => ?_) | with_reducible refine ifD (fun _ => ?_) (fun _ => ?_) | with_reducible refine guardND (fun _ => ?_) (fun _ => ?_) | with_reducible refine guardD (fun _ => ?_) (fun _ => ?_) | with_reducible refine sIf_intro (fun _ => ?_) (fun _ => ?_) | with_reducible refine sGuard_intro (fun _ => ?_) (fun _ => ?_) | with_reducible refine sCall_fn (by assumption) ?_ | with_reducible refine sDraw_seq cfgOK (by kernel_rfl) ?_ | ((first | with_reducible show W _ _ (.code _ :: _) _ _ _ | with_reducible show wRun _ _ _ _ _ _ _ _ _); refine burst ?_)))
      rw [hv.out, if_neg k1, if_neg k3, if_neg k6]
end Go.Ev
namespace Go.Ev
open Go Go.Proofs Tryz
open TP (Str Tree Nd)
set_option maxRecDepth 100000
set_option maxHeartbeats 4000000
theorem tup_one {v : Value} : tupleOf [v] = v := rfl
theorem node_frz {A : AS} {d : Nd} {v : Value} {kids : List (Tree Nd)} (h : Frz A v (rowK kids)) : Frz A (tupleOf [.agg #[.int .u64 d.id, .bool d.leaf, .string (bs d.label), rowA d.attrs, .string (bs d.text), v]]) (vNode (.mk d kids)) := by
  rw [tup_one, vNode, nodeC_eq]
  exact .agg (.cons (.clean rfl) (.cons (.clean rfl) (.cons (.clean rfl) (.cons (.clean (rowA_clean _)) (.cons (.clean rfl) (.cons h (.clean rfl)))))))
def eraseT (T : Tree Nd) (i : Nat) : Tree Nd := .mk T.d (T.kids.take i ++ T.kids.drop (i + 1))
theorem drop_fn (T : Tree Nd) (i : Nat) (hi : i < T.kids.length) (hk : T.kids.length ≤ 8388608) : Fn prog 141 [vNode T, .int .i64 i] (vNode (eraseT T i)) := by
  refine fn_is func141 ntmps141 results141 rfl cfgOK mixed (cl2 (nodeC_clean T) rfl) ?_
  have hb : [AB.cells (nodeL T) 26 (0, 0), AB.cells zeroL 26 (0, 0)].length = 2 := rfl
  obtain ⟨v1, l1, e1, o1, g1⟩ := (Acc.nil (e := 26) (s := 6) (B := [AB.cells (nodeL T) 26 (0, 0), AB.cells zeroL 26 (0, 0)])).app24 (news_row nodeC_length nodeC_cellv (T.kids.take i)) (by rw [hb]; omega) (by simp; omega)
  obtain ⟨v2, l2, e2, o2, k1⟩ := o1.app24 (news_row nodeC_length nodeC_cellv (T.kids.drop (i + 1))) (by omega) (by simp; omega)
  have hl1 : l1.length < 16777216 := by omega
  have hl2 : l2.length < 16777216 := by omega
  have f0 := (o1.base 0 (by rw [hb]; omega)).trans rfl
  have f2 := (o2.base 0 (by rw [hb]; omega)).trans rfl
  have f3 := (o2.base 1 (by rw [hb]; omega)).trans rfl
  obtain ⟨a2, c2, hv2⟩ := o2.own.slice
  subst hv2
  replace o1 := Hid.mk o1
  replace o2 := Hid.mk o2
  have hw : IntKind.i64.wrap ((i : Int) + 1) = ((i + 1 : Nat) : Int) := by rw [wrap_in (by omega) (by omega)]; omega
  have ht : (T.kids.take i).length = i := by rw [List.length_take]; omega
  have hd : (T.kids.drop (i + 1)).length = T.kids.length - (i + 1) := by rw [List.length_drop]
  rw [ht, Nat.zero_add] at e2
  rw [ht] at e1
  have hle : i ≤ T.kids.length := by omega
  have hle2 : i + 1 ≤ T.kids.length := by omega
  rw [hd] at e2
  simp only [nodeL, zeroL] at e1 f0 f2 f3
  have ht2 : (T.kids.drop (i + 1)).take (T.kids.length - (i + 1)) = T.kids.drop (i + 1) := List.take_of_length_le (by rw [List.length_drop]; omega)
  have hrf : T.kids.length ≤ T.kids.length := Nat.le_refl _
  refine burst ?_
  refine ends (node_frz ?_) rfl
  have hcl := row_clean nodeC_clean (T.kids.take i ++ T.kids.drop (i + 1))
  have h := o2.out
  rw [hd, ht, Nat.zero_add, List.nil_append, ← List.flatMap_append] at h
  show Frz _ _ (frow (T.kids.take i ++ T.kids.drop (i + 1)).length _)
  rw [show (T.kids.take i ++ T.kids.drop (i + 1)).length = i + (T.kids.length - (i + 1)) by rw [List.length_append, ht, hd]]
  exact h.frz (by simpa using hl2) (fun b hb => by
    have : 2 ≤ b := hb
    rw [gset, if_neg (by omega), gset, if_neg (by omega)]) hcl
end Go.Ev
