/- Own texts under the law DeclBack, merged, without what it does not lean on: part 5 of 7 (the abstract machine and its proof; residual forms; contracts; the plain law). -/
import Derived.Test.YtmhnmelaodhemaaGreatDoorDeclBackPackD
set_option linter.unusedVariables false
set_option linter.unusedSimpArgs false
set_option linter.unusedSectionVars false
set_option maxRecDepth 100000
namespace Go.Proofs.YtmhnmelaodhemaaGreatDoor
open Go Go.Proofs.Ab Go.Proofs.Px
def Bk.sizes : List Bk -> Nat
 | [] => 0
 | b :: l => 1 + b.whn.length + Ex.sizes b.whn + Bk.sizes l
theorem Bk.sizes_drop {l : List Bk} {i : Nat} (h : i < l.length) : Bk.sizes (l.drop i) = 1 + l[i].whn.length + Ex.sizes l[i].whn + Bk.sizes (l.drop (i + 1)) := by
 rw [List.drop_eq_getElem_cons h, Bk.sizes]
theorem Bk.sizes_len : ∀ l : List Bk, l.length <= Bk.sizes l
 | [] => Nat.zero_le _
 | b :: l => by have := Bk.sizes_len l; rw [Bk.sizes, List.length_cons]; omega
theorem Bk.sizes_mem : ∀ {l : List Bk} {b : Bk}, b ∈ l -> b.whn.length + Ex.sizes b.whn <= Bk.sizes l
 | x :: l, b, h => by
  rw [Bk.sizes]
  rcases List.mem_cons.1 h with rfl | h
  ·omega
  ·have := Bk.sizes_mem h; omega
theorem ref12_Size_is (f : Fl) (hf : FlOk f) : ∃ n : Int, den Sp ref12_Size.id [.agg f.v, .int .i64 600] [] none = some ⟨.ret (.int .i64 n), [], none⟩ ∧ 0 <= n ∧ n <= 1125899906842624 ∧
  (n <= 600 -> n = (f.pairs.length : Int) + (f.sames.length : Int) + (f.keeps.length : Int) + (f.watches.length : Int) + (Bk.sizes f.breaks : Int)) := by
 have hb := hf.breaks
 have inner : ∀ i (hi : i < f.breaks.length), (∀ n k : Int, 0 <= n -> n <= 1125899906842624 -> ∃ n2 : Int, ref12_Size.L1_1_0_1_0v1 600 n ((i + 1 : Nat) : Int) k (f.pairs.map Pai.v) (f.sames.map Pai.v) (f.keeps.map Kp.v) (f.breaks.map Bk.v) (f.watches.map Wt.v) = some ⟨.ret (.int .i64 n2), [], none⟩ ∧ n <= n2 ∧ n2 <= 1125899906842624 ∧ (n2 <= 600 -> n2 = n + (Bk.sizes (f.breaks.drop (i + 1)) : Int))) ->
   ∀ j : Nat, j <= f.breaks[i].whn.length -> ∀ n : Int, 0 <= n -> n <= 1125899906842624 -> ∃ n2 : Int, ref12_Size.L1_1_0_1_0_0_1_0_0_1_1_0 600 n (i : Int) (j : Int) (f.pairs.map Pai.v) (f.sames.map Pai.v) (f.keeps.map Kp.v) (f.breaks.map Bk.v) (f.watches.map Wt.v) = some ⟨.ret (.int .i64 n2), [], none⟩ ∧ n <= n2 ∧ n2 <= 1125899906842624 ∧
    (n2 <= 600 -> n2 = n + (f.breaks[i].whn.length - j : Int) + (Ex.sizes (f.breaks[i].whn.drop j) : Int) + (Bk.sizes (f.breaks.drop (i + 1)) : Int)) := by
  intro i hi hnext
  have ho := hb.2 _ (List.getElem_mem hi)
  have hw := ho.whn
  have hwr : IntKind.wrap .i64 ((i : Int) + 1) = (i : Int) + 1 := wrap_in (by omega) (by omega)
  simp only [Int.natCast_add, Int.natCast_one] at hnext
  refine down (fun n hn hn2 => ?_) fun j hj ihj n hn hn2 => ?_
  ·obtain ⟨n2, g1, g2, g3, g4⟩ := hnext n (f.breaks[i].whn.length : Int) hn hn2
   refine ⟨n2, ?_, g2, g3, fun h => ?_⟩
   ·rw [ref12_Size.L1_1_0_1_0_0_1_0_0_1_1_0_eq]
    simp [hi, hwr, g1]
   ·have := g4 h
    rw [List.drop_length, Ex.sizes]; omega
  ·by_cases hc : n <= 600
   ·obtain ⟨m, h1, h2, h3, h4⟩ := ref03_ExprSize_is f.breaks[i].whn[j] (hw.2 _ (List.getElem_mem hj)) 600 (by omega) (by omega)
    obtain ⟨n2, g1, g2, g3, g4⟩ := ihj (n + 1 + m) (by omega) (by omega)
    have w1 : IntKind.wrap .i64 (n + 1) = n + 1 := wrap_in (by omega) (by omega)
    have w2 : IntKind.wrap .i64 (n + 1 + m) = n + 1 + m := wrap_in (by omega) (by omega)
    have w3 : IntKind.wrap .i64 ((j : Int) + 1) = (j : Int) + 1 := wrap_in (by omega) (by omega)
    simp only [Int.natCast_add, Int.natCast_one] at g1
    refine ⟨n2, ?_, by omega, g3, fun h => ?_⟩
    ·rw [ref12_Size.L1_1_0_1_0_0_1_0_0_1_1_0_eq]
     simp [hi, hj, hc, h1, w1, w2, w3, g1]
    ·have e1 := g4 h
     have e2 := h4 (by omega)
     rw [Ex.sizes_drop hj]; omega
   ·obtain ⟨n2, g1, g2, g3, g4⟩ := hnext n (j : Int) hn hn2
    refine ⟨n2, ?_, g2, g3, fun h => by omega⟩
    rw [ref12_Size.L1_1_0_1_0_0_1_0_0_1_1_0_eq]
    simp [hi, hj, hc, hwr, g1]
 have outer : ∀ i : Nat, i <= f.breaks.length -> ∀ n k : Int, 0 <= n -> n <= 1125899906842624 -> ∃ n2 : Int, ref12_Size.L1_1_0_1_0v1 600 n (i : Int) k (f.pairs.map Pai.v) (f.sames.map Pai.v) (f.keeps.map Kp.v) (f.breaks.map Bk.v) (f.watches.map Wt.v) = some ⟨.ret (.int .i64 n2), [], none⟩ ∧ n <= n2 ∧ n2 <= 1125899906842624 ∧ (n2 <= 600 -> n2 = n + (Bk.sizes (f.breaks.drop i) : Int)) := by
  refine down (fun n k hn hn2 => ?_) fun i hi ihi n k hn hn2 => ?_
  ·refine ⟨n, ?_, by omega, hn2, fun _ => by rw [List.drop_length, Bk.sizes]; omega⟩
   rw [ref12_Size.L1_1_0_1_0v1_eq]; simp
  ·by_cases hc : n <= 600
   ·obtain ⟨n2, g1, g2, g3, g4⟩ := inner i hi ihi 0 (Nat.zero_le _) (n + 1) (by omega) (by omega)
    have w1 : IntKind.wrap .i64 (n + 1) = n + 1 := wrap_in (by omega) (by omega)
    refine ⟨n2, ?_, by omega, g3, fun h => ?_⟩
    ·rw [ref12_Size.L1_1_0_1_0v1_eq]
     simp [hi, hc, w1]
     simpa using g1
    ·have := g4 h
     rw [Bk.sizes_drop hi]
     rw [List.drop_zero] at this
     omega
   ·refine ⟨n, ?_, by omega, hn2, fun h => by omega⟩
    rw [ref12_Size.L1_1_0_1_0v1_eq]; simp [hi, hc]
 have l1 := hf.pairs.1
 have l2 := hf.sames.1
 have l3 := hf.keeps.1
 have l4 := hf.watches.1
 obtain ⟨n2, g1, g2, g3, g4⟩ := outer 0 (Nat.zero_le _) ((f.pairs.length : Int) + (f.sames.length : Int) + (f.keeps.length : Int) + (f.watches.length : Int)) 0 (by omega) (by omega)
 refine ⟨n2, ?_, by omega, g3, fun h => by have := g4 h; rw [List.drop_zero] at this; exact this⟩
 have e : ∀ n : Int, ref12_Size.L1_1_0_1_0 600 n (f.pairs.map Pai.v) (f.sames.map Pai.v) (f.keeps.map Kp.v) (f.breaks.map Bk.v) (f.watches.map Wt.v) = ref12_Size.L1_1_0_1_0v1 600 n 0 0 (f.pairs.map Pai.v) (f.sames.map Pai.v) (f.keeps.map Kp.v) (f.breaks.map Bk.v) (f.watches.map Wt.v) := fun n => by
  rw [ref12_Size.L1_1_0_1_0_eq, ref12_Size.L1_1_0_1_0v1_eq]
 rw [Fl.v, ref12_Size.eq]
 simp (disch := omega) only [List.length_map, wrap_in]
 rw [e]
 simpa using g1
def Pai.len (p : Pai) : Nat := p.procA.length / 8 + p.procB.length / 8 + p.varA.length / 8 + p.varB.length / 8
def Pai.lens : List Pai -> Nat
 | [] => 0
 | p :: l => p.len + Pai.lens l
theorem Pai.lens_drop {l : List Pai} {i : Nat} (h : i < l.length) : Pai.lens (l.drop i) = l[i].len + Pai.lens (l.drop (i + 1)) := by
 rw [List.drop_eq_getElem_cons h, Pai.lens]
structure NotGreat (f : Fl) : Prop where
 num : f.pairs.length + f.sames.length + f.keeps.length + f.watches.length + Bk.sizes f.breaks <= 600
 pairs : Pai.lens f.pairs <= 600
 sames : Pai.lens f.sames <= 600
theorem law12_great_is (f : Fl) (hf : FlOk f) : ∃ g : Bool, den Sp law12_great.id [.agg f.v] [] none = some ⟨.ret (.bool g), [], none⟩ ∧ (g = false -> NotGreat f) := by
 obtain ⟨n, h1, h2, h3, h4⟩ := ref12_Size_is f hf
 have second : ∀ x : Int, ∀ i : Nat, i <= f.sames.length -> ∀ m : Int, 0 <= m -> m <= 1125899906843824 -> ∃ m2 : Int, law12_great.L1_1_1_0_1_0 m x (i : Int) (f.pairs.map Pai.v) (f.sames.map Pai.v) (f.keeps.map Kp.v) (f.breaks.map Bk.v) (f.watches.map Wt.v) = some ⟨.ret (.bool (decide (600 < m2))), [], none⟩ ∧ m <= m2 ∧ (m2 <= 600 -> m2 = m + (Pai.lens (f.sames.drop i) : Int)) := by
  intro x
  have hl := hf.sames
  refine down (fun m hm hm2 => ?_) fun i hi ih m hm hm2 => ?_
  ·refine ⟨m, ?_, by omega, fun _ => by rw [List.drop_length, Pai.lens]; omega⟩
   rw [law12_great.L1_1_1_0_1_0_eq]; simp
  ·by_cases hc : m <= 600
   ·have ho := hl.2 _ (List.getElem_mem hi)
    have e1 := ho.procA
    have e2 := ho.procB
    have e3 := ho.varA
    have e4 := ho.varB
    obtain ⟨m2, g1, g2, g3⟩ := ih (m + ((f.sames[i].procA.length / 8 : Nat) : Int) + ((f.sames[i].procB.length / 8 : Nat) : Int) + ((f.sames[i].varA.length / 8 : Nat) : Int) + ((f.sames[i].varB.length / 8 : Nat) : Int)) (by omega) (by omega)
    simp only [Int.natCast_add, Int.natCast_one] at g1
    refine ⟨m2, ?_, by omega, fun h => ?_⟩
    ·rw [law12_great.L1_1_1_0_1_0_eq]
     simp (disch := omega) only [List.length_map, decide_eq_true (show (i : Int) < (f.sames.length : Int) by omega), cond_true, decide_eq_true hc, if_pos (in_row hi), Int.toNat_natCast, map_at _ _ _ hi, Pai.v_0, Pai.v_1, Pai.v_2, Pai.v_3, asStr_str, B_size, eighth, wrap_in]
     exact g1
    ·have := g3 h
     rw [Pai.lens_drop hi, Pai.len]; omega
   ·refine ⟨m, ?_, by omega, fun h => by omega⟩
    rw [law12_great.L1_1_1_0_1_0_eq]; simp [hi, hc]
 have first : ∀ i : Nat, i <= f.pairs.length -> ∀ m : Int, 0 <= m -> m <= 1125899906843224 -> ∃ m2 : Int, law12_great.L1_1_0_1_0 m (i : Int) (f.pairs.map Pai.v) (f.sames.map Pai.v) (f.keeps.map Kp.v) (f.breaks.map Bk.v) (f.watches.map Wt.v) = some ⟨.ret (.bool (decide (600 < m2))), [], none⟩ ∧ m <= m2 ∧ (m2 <= 600 -> m2 = m + (Pai.lens (f.pairs.drop i) : Int) + (Pai.lens f.sames : Int)) := by
  have hl := hf.pairs
  refine down (fun m hm hm2 => ?_) fun i hi ih m hm hm2 => ?_
  ·obtain ⟨m2, g1, g2, g3⟩ := second (f.pairs.length : Int) 0 (Nat.zero_le _) m hm (by omega)
   refine ⟨m2, ?_, g2, fun h => by have := g3 h; rw [List.drop_length, Pai.lens]; rw [List.drop_zero] at this; omega⟩
   rw [law12_great.L1_1_0_1_0_eq]; simpa using g1
  ·by_cases hc : m <= 600
   ·have ho := hl.2 _ (List.getElem_mem hi)
    have e1 := ho.procA
    have e2 := ho.procB
    have e3 := ho.varA
    have e4 := ho.varB
    obtain ⟨m2, g1, g2, g3⟩ := ih (m + ((f.pairs[i].procA.length / 8 : Nat) : Int) + ((f.pairs[i].procB.length / 8 : Nat) : Int) + ((f.pairs[i].varA.length / 8 : Nat) : Int) + ((f.pairs[i].varB.length / 8 : Nat) : Int)) (by omega) (by omega)
    simp only [Int.natCast_add, Int.natCast_one] at g1
    refine ⟨m2, ?_, by omega, fun h => ?_⟩
    ·rw [law12_great.L1_1_0_1_0_eq]
     simp (disch := omega) only [List.length_map, decide_eq_true (show (i : Int) < (f.pairs.length : Int) by omega), cond_true, decide_eq_true hc, if_pos (in_row hi), Int.toNat_natCast, map_at _ _ _ hi, Pai.v_0, Pai.v_1, Pai.v_2, Pai.v_3, asStr_str, B_size, eighth, wrap_in]
     exact g1
    ·have := g3 h
     rw [Pai.lens_drop hi, Pai.len]; omega
   ·obtain ⟨m2, g1, g2, g3⟩ := second (i : Int) 0 (Nat.zero_le _) m hm (by omega)
    refine ⟨m2, ?_, g2, fun h => by omega⟩
    rw [law12_great.L1_1_0_1_0_eq]
    simp [hi, hc]
    simpa using g1
 obtain ⟨m2, g1, g2, g3⟩ := first 0 (Nat.zero_le _) n h2 (by omega)
 refine ⟨decide (600 < m2), ?_, fun hg => ?_⟩
 ·rw [Fl.v] at h1
  rw [Fl.v, law12_great.eq, h1]
  simpa using g1
 ·have hm : m2 <= 600 := by simpa using hg
  have e1 := g3 hm
  rw [List.drop_zero] at e1
  have e2 := h4 (by omega)
  exact ⟨by omega, by omega, by omega⟩
theorem NotGreat.small {f : Fl} (h : NotGreat f) (hf : FlOk f) : SmallF f := by
 have := h.num
 have hb := Bk.sizes_len f.breaks
 exact ⟨by omega, by omega, by omega, by omega, by omega, fun x hx => by have := Bk.sizes_mem hx; omega, fun x hx => (hf.breaks.2 x hx).mark⟩
def Fl.ov (f : Fl) : List V := [.sl .no T_api_Pair (f.pairs.map Pai.v), .sl .no T_api_Pair (f.sames.map Pai.v), .sl .no T_decl_Keep (f.keeps.map Kp.v), .sl .no T_decl_Break (f.breaks.map Bk.v), .sl .no T_decl_Watch (f.watches.map Wt.v)]
theorem law12_own_is (f : Fl) (hf : SmallF f) : den Sp law12_own.id [.agg f.v] [] none = some ⟨.ret (.agg f.ov), [], none⟩ := by
 have hm : most = 1099511627776 := rfl
 have third : ∀ (x y : Int), ∀ i : Nat, i <= f.watches.length -> law12_own.L1_1_1_1_0_1_0 x y (i : Int) (f.pairs.map Pai.v) (f.sames.map Pai.v) (f.keeps.map Kp.v) (f.breaks.map Bk.v) (f.watches.map Wt.v) (f.pairs.map Pai.v) (f.sames.map Pai.v) (f.keeps.map Kp.v) (f.breaks.map Bk.v) ((f.watches.take i).map Wt.v) = some ⟨.ret (.agg f.ov), [], none⟩ := by
  intro x y
  have hl := hf.watches
  refine down ?_ fun i hi ih => ?_
  ·rw [law12_own.L1_1_1_1_0_1_0_eq, List.take_length]; simp [Fl.ov]
  ·rw [List.take_succ_eq_append_getElem hi, List.map_append, List.map_singleton, Wt.v] at ih
   simp only [Int.natCast_add, Int.natCast_one] at ih
   have hw : IntKind.wrap .i64 ((i : Int) + 1) = (i : Int) + 1 := wrap_in (by omega) (by omega)
   rw [law12_own.L1_1_1_1_0_1_0_eq]
   simp (disch := omega) only [List.length_map, decide_eq_true (show (i : Int) < (f.watches.length : Int) by omega), cond_true, if_pos (in_row hi), Int.toNat_natCast, map_at _ _ _ hi, Wt.v_0, Wt.v_1, Wt.v_2, asInt_int, asStr_str, hw, List.length_take, List.length_singleton]
   rw [if_pos (by omega)]
   exact ih
 have second : ∀ (x : Int), ∀ i : Nat, i <= f.breaks.length -> law12_own.L1_1_1_0_1_0 x (i : Int) (f.pairs.map Pai.v) (f.sames.map Pai.v) (f.keeps.map Kp.v) (f.breaks.map Bk.v) (f.watches.map Wt.v) (f.pairs.map Pai.v) (f.sames.map Pai.v) (f.keeps.map Kp.v) ((f.breaks.take i).map Bk.v) = some ⟨.ret (.agg f.ov), [], none⟩ := by
  intro x
  have hl := hf.breaks
  refine down ?_ fun i hi ih => ?_
  ·rw [law12_own.L1_1_1_0_1_0_eq, List.take_length]; simpa using third x (f.breaks.length : Int) 0 (Nat.zero_le _)
  ·rw [List.take_succ_eq_append_getElem hi, List.map_append, List.map_singleton, Bk.v] at ih
   simp only [Int.natCast_add, Int.natCast_one] at ih
   have hw : IntKind.wrap .i64 ((i : Int) + 1) = (i : Int) + 1 := wrap_in (by omega) (by omega)
   rw [law12_own.L1_1_1_0_1_0_eq]
   simp (disch := omega) only [List.length_map, decide_eq_true (show (i : Int) < (f.breaks.length : Int) by omega), cond_true, if_pos (in_row hi), Int.toNat_natCast, map_at _ _ _ hi, Bk.v_0, Bk.v_1, Bk.v_2, Bk.v_3, asInt_int, asStr_str, asSl_sl, hw, List.length_take, List.length_singleton]
   rw [if_pos (by omega)]
   exact ih
 have first : ∀ i : Nat, i <= f.keeps.length -> law12_own.L1_1_0_1_0 (i : Int) (f.pairs.map Pai.v) (f.sames.map Pai.v) (f.keeps.map Kp.v) (f.breaks.map Bk.v) (f.watches.map Wt.v) (f.pairs.map Pai.v) (f.sames.map Pai.v) ((f.keeps.take i).map Kp.v) = some ⟨.ret (.agg f.ov), [], none⟩ := by
  have hl := hf.keeps
  refine down ?_ fun i hi ih => ?_
  ·rw [law12_own.L1_1_0_1_0_eq, List.take_length]; simpa using second (f.keeps.length : Int) 0 (Nat.zero_le _)
  ·rw [List.take_succ_eq_append_getElem hi, List.map_append, List.map_singleton, Kp.v] at ih
   simp only [Int.natCast_add, Int.natCast_one] at ih
   have hw : IntKind.wrap .i64 ((i : Int) + 1) = (i : Int) + 1 := wrap_in (by omega) (by omega)
   rw [law12_own.L1_1_0_1_0_eq]
   simp (disch := omega) only [List.length_map, decide_eq_true (show (i : Int) < (f.keeps.length : Int) by omega), cond_true, if_pos (in_row hi), Int.toNat_natCast, map_at _ _ _ hi, Kp.v_0, Kp.v_1, Kp.v_2, asInt_int, asStr_str, hw, List.length_take, List.length_singleton]
   rw [if_pos (by omega)]
   exact ih
 have h0 := first 0 (Nat.zero_le _)
 rw [Fl.v, law12_own.eq]
 simpa using h0
def isN (s : List UInt8) : Bool := isName (B s)
def nb (l : List (List UInt8)) : Bool := l.any fun s => !isN s && !decide (s = [40]) && !decide (s = [41])
def sideT (n : Int) : List UInt8 := if n = 1 then [114, 105, 103, 104, 116] else [108, 101, 102, 116]
def sideK (n : Int) : Bool := decide (n = 0) || decide (n = 1)
def pairW (p : Pai) : List (List UInt8) := [[112, 97, 105, 114], p.procA, p.procB, [59]]
def sameW (p : Pai) : List (List UInt8) := [[115, 97, 109, 101], p.procA, [40], p.varA, [41], p.procB, [40], p.varB, [41], [59]]
def keepW (k : Kp) : List (List UInt8) := [[107, 101, 101, 112], sideT k.side, k.prc, k.vr, [59]]
def whenW : List Ex -> List (List UInt8)
 | [] => []
 | x :: l => [119, 104, 101, 110] :: (prX x).1 :: whenW l
def breakW (b : Bk) : List (List UInt8) := [98, 114, 101, 97, 107] :: sideT b.side :: b.prc :: decs b.mark :: (whenW b.whn ++ [[59]])
def watchW (k : Wt) : List (List UInt8) := [[119, 97, 116, 99, 104], sideT k.side, k.prc, k.vr, [59]]
def okPair (p : Pai) : Bool := isN p.procA && isN p.procB && decide (p.varA = []) && decide (p.varB = [])
def okSame (p : Pai) : Bool := isN p.procA && isN p.procB && isN p.varA && isN p.varB
def okKeep (k : Kp) : Bool := isN k.prc && isN k.vr && sideK k.side
def okWhen : List Ex -> Bool
 | [] => true
 | x :: l => decide ((prX x).2 = 0) && okWhen l
def okBreak (b : Bk) : Bool := isN b.prc && sideK b.side && decide (0 <= b.mark) && decide (b.whn.length < 2) && okWhen b.whn
def okWatch (k : Wt) : Bool := isN k.prc && isN k.vr && sideK k.side
def linesW {α : Type} (w : α -> List (List UInt8)) : List α -> List (List UInt8)
 | [] => []
 | x :: l => w x ++ linesW w l
def allK {α : Type} (o : α -> Bool) : List α -> Bool
 | [] => true
 | x :: l => o x && allK o l
theorem linesW_drop {α : Type} {w : α -> List (List UInt8)} {l : List α} {i : Nat} (h : i < l.length) : linesW w (l.drop i) = w l[i] ++ linesW w (l.drop (i + 1)) := by
 rw [List.drop_eq_getElem_cons h, linesW]
theorem allK_drop {α : Type} {o : α -> Bool} {l : List α} {i : Nat} (h : i < l.length) : allK o (l.drop i) = (o l[i] && allK o (l.drop (i + 1))) := by
 rw [List.drop_eq_getElem_cons h, allK]
def fileW (f : Fl) : List (List UInt8) := linesW pairW f.pairs ++ (linesW sameW f.sames ++ (linesW keepW f.keeps ++ (linesW breakW f.breaks ++ linesW watchW f.watches)))
def okFile (f : Fl) : Bool := allK okPair f.pairs && (allK okSame f.sames && (allK okKeep f.keeps && (allK okBreak f.breaks && allK okWatch f.watches)))
def longF (f : Fl) : Bool := decide (40 < f.pairs.length) || decide (40 < f.sames.length) || decide (40 < f.keeps.length) || decide (40 < f.breaks.length) || decide (40 < f.watches.length)
def prF (f : Fl) : List UInt8 × Int := if okFile f then (if longF f then ([], 2) else (joinL (fileW f), 0)) else ([], 32)
theorem isN_nb {s : List UInt8} (h : isN s = true) : nb [s] = false := by simp [nb, h]
theorem isN_len {s : List UInt8} (h : isN s = true) : s.length <= 40 := name_len h
theorem sideT_len (n : Int) : (sideT n).length <= 5 := by unfold sideT; split <;> decide
theorem sideT_isN (n : Int) : isN (sideT n) = true := by unfold sideT; split <;> decide
theorem prX_len (x : Ex) : (prX x).1.length <= 60 * x.size := by
 unfold prX
 split
 ·rename_i h
  split
  ·simp
  ·have := (okX_weigh x h).1
   have := joinL_len (exW x)
   simp only; omega
 ·simp
theorem whenW_weigh : ∀ l : List Ex, weighW (whenW l) <= 6 * l.length + 60 * Ex.sizes l
 | [] => by rw [whenW, weighW_nil]; omega
 | x :: l => by
  have := prX_len x
  have := whenW_weigh l
  rw [whenW, weighW_cons, weighW_cons, Ex.sizes, List.length_cons]
  simp only [List.length_cons, List.length_nil] at *
  omega
theorem whenW_len : ∀ l : List Ex, (whenW l).length = 2 * l.length
 | [] => rfl
 | x :: l => by rw [whenW, List.length_cons, List.length_cons, whenW_len l, List.length_cons]; omega
theorem pairW_weigh {p : Pai} (h : okPair p = true) : weighW (pairW p) <= 1000 := by
 unfold okPair at h
 simp only [Bool.and_eq_true] at h
 have := isN_len h.1.1.1
 have := isN_len h.1.1.2
 unfold pairW
 simp only [weighW_cons, weighW_nil, List.length_cons, List.length_nil]; omega
theorem sameW_weigh {p : Pai} (h : okSame p = true) : weighW (sameW p) <= 1000 := by
 unfold okSame at h
 simp only [Bool.and_eq_true] at h
 have := isN_len h.1.1.1
 have := isN_len h.1.1.2
 have := isN_len h.1.2
 have := isN_len h.2
 unfold sameW
 simp only [weighW_cons, weighW_nil, List.length_cons, List.length_nil]; omega
theorem keepW_weigh {p : Kp} (h : okKeep p = true) : weighW (keepW p) <= 1000 := by
 unfold okKeep at h
 simp only [Bool.and_eq_true] at h
 have := isN_len h.1.1
 have := isN_len h.1.2
 have := sideT_len p.side
 unfold keepW
 simp only [weighW_cons, weighW_nil, List.length_cons, List.length_nil]; omega
theorem watchW_weigh {p : Wt} (h : okWatch p = true) : weighW (watchW p) <= 1000 := by
 unfold okWatch at h
 simp only [Bool.and_eq_true] at h
 have := isN_len h.1.1
 have := isN_len h.1.2
 have := sideT_len p.side
 unfold watchW
 simp only [weighW_cons, weighW_nil, List.length_cons, List.length_nil]; omega
theorem breakW_weigh {p : Bk} (h : okBreak p = true) : weighW (breakW p) <= 1000 * (1 + p.whn.length + Ex.sizes p.whn) := by
 unfold okBreak at h
 simp only [Bool.and_eq_true] at h
 have := isN_len h.1.1.1.1
 have := sideT_len p.side
 have := decs_len p.mark
 have := whenW_weigh p.whn
 unfold breakW
 simp only [weighW_cons, weighW_app, weighW_nil, List.length_cons, List.length_nil]; omega
theorem breakW_len (p : Bk) : (breakW p).length = 5 + 2 * p.whn.length := by
 unfold breakW
 simp only [List.length_cons, List.length_append, whenW_len, List.length_nil]; omega
theorem sz_str : sz (Pg.P Sp) 9 = 1 := by kernel_rfl
theorem lex_letter_is (c : Int) : den Sp lex_letter.id [.int .u8 c] [] none = some ⟨.ret (.bool (letter c)), [], none⟩ := by
 rw [lex_letter.eq]
 unfold letter
 by_cases h1 : 65 <= c <;> by_cases h2 : c <= 90 <;> by_cases h3 : 97 <= c <;> simp [h1, h2, h3]
theorem lex_digit_is (c : Int) : den Sp lex_digit.id [.int .u8 c] [] none = some ⟨.ret (.bool (digit c)), [], none⟩ := by
 rw [lex_digit.eq]
 unfold digit
 by_cases h1 : 48 <= c <;> simp [h1]
theorem lex_inner_is (c : Int) : den Sp lex_inner.id [.int .u8 c] [] none = some ⟨.ret (.bool (inner c)), [], none⟩ := by
 rw [lex_inner.eq, lex_letter_is, lex_digit_is]
 unfold inner
 cases letter c <;> cases digit c <;> simp
theorem lex_isKey_is (s : ByteArray) : den Sp lex_isKey.id [.str s] [] none = some ⟨.ret (.bool (isKey s)), [], none⟩ := by
 rw [lex_isKey.eq]
 have key : ∀ i : Nat, i <= 13 -> lex_isKey.L1_0_1_0 s (i : Int) = some ⟨.ret (.bool (isIn s (keys.drop i))), [], none⟩ := by
  refine down ?_ fun i hi ih => ?_
  ·rw [lex_isKey.L1_0_1_0_eq]; rfl
  ·rw [lex_isKey.L1_0_1_0_eq, wrap_nat (by omega), ih, isIn_step (show i < keys.length from hi)]
   have h1 : ((i : Int) < 13) := by omega
   have h2 : ((0 : Int) <= i ∧ (i : Int) < ((13 : Nat) : Int)) := by omega
   rw [show (decide ((i : Int) < 13)) = true by simp [h1], cond_true, if_pos h2]
   try rw [sz_str]
   have hi' : i < keys.length := hi
   have h3 : (keys.map V.str).getD ((Int.toNat (i : Int)) * 1 + 0) V.undef = V.str (keys[i]'hi') := by
    rw [List.getD_eq_getElem?_getD, List.getElem?_map, show Int.toNat (i : Int) * 1 + 0 = i by simp, List.getElem?_eq_getElem hi']
    rfl
   refine (congrArg (fun v => V.asStr v _) h3).trans ?_
   rw [asStr_str]
   generalize keys[i]'hi' = kk
   by_cases he : s = kk
   ·subst he; simp
   ·have he' : ¬ kk = s := fun h => he h.symm
    simp [he, he']
 exact key 0 (by omega)
theorem lex_IsName_is (s : ByteArray) (hs : s.size < 4611686018427387904) : den Sp lex_IsName.id [.str s] [] none = some ⟨.ret (.bool (isName s)), [], none⟩ := by
 rw [lex_IsName.eq, lex_letter_is, lex_isKey_is]
 have key : ∀ i : Nat, i <= s.size -> lex_IsName.L1_1_0_1_0 s (s.size : Int) (i : Int) = some ⟨.ret (.bool (allF (fun i => inner (byteAt s i)) s.size i)), [], none⟩ := by
  refine down ?_ fun i hi ih => ?_
  ·rw [lex_IsName.L1_1_0_1_0_eq, allF_end]; simp
  ·rw [lex_IsName.L1_1_0_1_0_eq, wrap_nat (by omega), ih, lex_inner_is, allF_step hi]
   have h1 : ((i : Int) < (s.size : Int)) := by omega
   cases hin : inner (byteAt s i) <;> simp [hi, hin]
 unfold isName
 by_cases h0 : s = ⟨#[]⟩
 ·subst h0; rfl
 ·have hsz : 0 < s.size := by
   rcases Nat.eq_zero_or_pos s.size with h | h
   ·exact absurd ((empty_iff s).2 h) h0
   ·exact h
  by_cases h1 : 40 < s.size
  ·have h1' : ¬ s.size <= 40 := by omega
   have h3 : ((s.size : Int) > 40) := by omega
   simp [h0, show ¬ s = B [] from h0, h1', h3]
  ·have h1' : s.size <= 40 := by omega
   have h2 : ¬ ((s.size : Int) > 40) := by omega
   have hk := key 0 (by omega)
   rw [show ((0 : Nat) : Int) = (0 : Int) from rfl] at hk
   cases hl : letter (byteAt s 0) <;> cases hq : isKey s <;> simp [h0, show ¬ s = B [] from h0, h1', h2, hsz, hl, hq, hk]
theorem ref02_between_is (a b c : Int) : den Sp ref02_between.id [.int .u8 a, .int .u8 b, .int .u8 c] [] none = some ⟨.ret (.bool (decide (b <= a) && decide (a <= c))), [], none⟩ := by
 rw [ref02_between.eq]
 by_cases h1 : b <= a <;> simp [h1]
theorem ref02_letter_is (c : Int) : den Sp ref02_letter.id [.int .u8 c] [] none = some ⟨.ret (.bool (letter c)), [], none⟩ := by
 rw [ref02_letter.eq, ref02_between_is, ref02_between_is]
 unfold letter
 by_cases h1 : 65 <= c <;> by_cases h2 : c <= 90 <;> by_cases h3 : 97 <= c <;> simp [h1, h2, h3]
theorem ref02_digit_is (c : Int) : den Sp ref02_digit.id [.int .u8 c] [] none = some ⟨.ret (.bool (digit c)), [], none⟩ := by
 rw [ref02_digit.eq, ref02_between_is]
 simp [digit]
theorem ref02_inner_is (c : Int) : den Sp ref02_inner.id [.int .u8 c] [] none = some ⟨.ret (.bool (inner c)), [], none⟩ := by
 rw [ref02_inner.eq, ref02_letter_is, ref02_digit_is]
 unfold inner
 cases letter c <;> cases digit c <;> simp
theorem ref02_Keys_is : den Sp ref02_Keys.id [] [] none = some ⟨.ret (.sl .no T_string (keys.map fun k => [.str k])), [], none⟩ := ref02_Keys.eq
theorem ref02_in_is (s : ByteArray) (l : List ByteArray) (hl : l.length < 4611686018427387904) : den Sp ref02_in.id [.str s, .sl .no T_string (l.map fun k => [.str k])] [] none = some ⟨.ret (.bool (isIn s l)), [], none⟩ := by
 rw [ref02_in.eq]
 have key : ∀ i : Nat, i <= l.length -> ref02_in.L1_0_1_0 s (l.map fun k => [V.str k]) (i : Int) = some ⟨.ret (.bool (isIn s (l.drop i))), [], none⟩ := by
  refine down ?_ fun i hi ih => ?_
  ·rw [ref02_in.L1_0_1_0_eq]; simp [isIn]
  ·rw [ref02_in.L1_0_1_0_eq, wrap_nat (by omega), ih, isIn_step hi]
   have h3 : (List.getD (List.getD (l.map fun k => [V.str k]) (Int.toNat (i : Int)) []) 0 V.undef) = V.str l[i] := by
    simp [List.getD_eq_getElem?_getD, hi]
   rw [h3]
   by_cases he : l[i] = s
   ·simp [hi, he]
   ·simp [hi, he]
 exact key 0 (by omega)
theorem ref02_IsName_is (s : ByteArray) (hs : s.size < 4611686018427387904) : den Sp ref02_IsName.id [.str s] [] none = some ⟨.ret (.bool (isName s)), [], none⟩ := by
 rw [ref02_IsName.eq]
 have key : ∀ i : Nat, i <= s.size -> ref02_IsName.L1_0_1_0 s (i : Int) = some ⟨.ret (.bool (decide (0 < s.size) && decide (s.size <= 40) && letter (byteAt s 0) && !isKey s && allF (fun i => inner (byteAt s i)) s.size i)), [], none⟩ := by
  refine down ?_ fun i hi ih => ?_
  ·rw [ref02_IsName.L1_0_1_0_eq, allF_end, ref02_Keys_is, ref02_letter_is]
   simp only [Option.bind_some, onRet_ret, asBool_bool, asSl_sl, ref02_in_is s keys (by decide)]
   by_cases h0 : 0 < s.size
   ·by_cases h1 : s.size <= 40
    ·have h2 : (s.size : Int) <= 40 := by omega
     have h3 : (0 : Int) < s.size := by omega
     cases hl : letter (byteAt s 0) <;> simp [h0, h1, h2, h3, isKey]
    ·have h2 : ¬ (s.size : Int) <= 40 := by omega
     have h3 : (0 : Int) < s.size := by omega
     simp [h0, h1, h2, h3]
   ·have h3 : ¬ (0 : Int) < s.size := by omega
    simp [h0, h3]
  ·rw [ref02_IsName.L1_0_1_0_eq, wrap_nat (by omega), ih, ref02_inner_is, allF_step hi]
   cases hin : inner (byteAt s i) <;> simp [hi, hin]
 exact key 0 (by omega)
end Go.Proofs.YtmhnmelaodhemaaGreatDoor
namespace Go.Proofs.YtmhnmelaodhemaaGreatDoor
open Go Go.Proofs.Ab
namespace syntax_tokens_wrong
theorem eq (m0_0 : List (List V)) (m0_1 : Int) : den Sp id [V.ref 0 0] [Blk.cells T_syntax_tokens [V.sl .no T_api_Token m0_0, V.int .i64 m0_1] false] none =
  (if (((0 : Int) <= m0_1) ∧ (m0_1 < (m0_0.length : Int))) then (V.asInt (List.getD (List.getD m0_0 (Int.toNat m0_1) []) 3 V.undef) .i64 (fun n3 => some ⟨Out.pan (V.iface T_syntax_given (V.agg [V.int .i64 n3, V.int .i64 (30 : Int)])), [Blk.cells T_syntax_tokens [V.sl .no T_api_Token m0_0, V.int .i64 m0_1] false], none⟩)) else none) := (den_eq ..).trans (by kernel_rfl)
end syntax_tokens_wrong
namespace syntax_tokens_is
theorem eq (m0_0 : List (List V)) (m0_1 : Int) (a1 : ByteArray) : den Sp id [V.ref 0 0, V.str a1] [Blk.cells T_syntax_tokens [V.sl .no T_api_Token m0_0, V.int .i64 m0_1] false] none =
  (if (((0 : Int) <= m0_1) ∧ (m0_1 < (m0_0.length : Int))) then (V.asInt (List.getD (List.getD m0_0 (Int.toNat m0_1) []) 0 V.undef) .i64 (fun n5 => V.asStr (List.getD (List.getD m0_0 (Int.toNat m0_1) []) 1 V.undef) (fun s6 => V.asInt (List.getD (List.getD m0_0 (Int.toNat m0_1) []) 2 V.undef) .i64 (fun n7 => V.asInt (List.getD (List.getD m0_0 (Int.toNat m0_1) []) 3 V.undef) .i64 (fun n8 => bif (n5 == (3 : Int)) then (some ⟨Out.ret (V.bool (decide (s6 = a1))), [Blk.cells T_syntax_tokens [V.sl .no T_api_Token m0_0, V.int .i64 m0_1] false], none⟩) else (bif (n5 == (4 : Int)) then (some ⟨Out.ret (V.bool (decide (s6 = a1))), [Blk.cells T_syntax_tokens [V.sl .no T_api_Token m0_0, V.int .i64 m0_1] false], none⟩) else (some ⟨Out.ret (V.bool false), [Blk.cells T_syntax_tokens [V.sl .no T_api_Token m0_0, V.int .i64 m0_1] false], none⟩))))))) else none) := (den_eq ..).trans (by kernel_rfl)
end syntax_tokens_is
namespace syntax_tokens_has
theorem eq (m0_0 : List (List V)) (m0_1 : Int) (a1 : ByteArray) : den Sp id [V.ref 0 0, V.str a1] [Blk.cells T_syntax_tokens [V.sl .no T_api_Token m0_0, V.int .i64 m0_1] false] none =
  (den Sp syntax_tokens_is.id [V.ref 0 0, V.str a1] [Blk.cells T_syntax_tokens [V.sl .no T_api_Token m0_0, V.int .i64 m0_1] false] none).bind (fun r5 => Blk.asCells (List.getD (Res.bl r5) 0 (Blk.cells T_n0 [] true)) T_syntax_tokens 2 (fun rd6 => V.asSl (rd6 0) T_api_Token (fun es7 => V.asInt (rd6 1) .i64 (fun n8 => Res.onRet r5 (fun v9 => V.asBool v9 (fun b10 => bif (!b10) then (some ⟨Out.ret (V.bool false), [Blk.cells T_syntax_tokens [V.sl .no T_api_Token es7, V.int .i64 n8] false], none⟩) else (some ⟨Out.ret (V.bool true), [Blk.cells T_syntax_tokens [V.sl .no T_api_Token es7, V.int .i64 (IntKind.wrap .i64 (n8 + (1 : Int)))] false], none⟩))))))) := (den_eq ..).trans (by kernel_rfl)
end syntax_tokens_has
namespace syntax_tokens_need
theorem eq (m0_0 : List (List V)) (m0_1 : Int) (a1 : ByteArray) : den Sp id [V.ref 0 0, V.str a1] [Blk.cells T_syntax_tokens [V.sl .no T_api_Token m0_0, V.int .i64 m0_1] false] none =
  (den Sp syntax_tokens_has.id [V.ref 0 0, V.str a1] [Blk.cells T_syntax_tokens [V.sl .no T_api_Token m0_0, V.int .i64 m0_1] false] none).bind (fun r4 => Blk.asCells (List.getD (Res.bl r4) 0 (Blk.cells T_n0 [] true)) T_syntax_tokens 2 (fun rd5 => V.asSl (rd5 0) T_api_Token (fun es6 => V.asInt (rd5 1) .i64 (fun n7 => Res.onRet r4 (fun v8 => V.asBool v8 (fun b9 => bif (!b9) then (den Sp syntax_tokens_wrong.id [V.ref 0 0] [Blk.cells T_syntax_tokens [V.sl .no T_api_Token es6, V.int .i64 n7] false] none).bind (fun r11 => Blk.asCells (List.getD (Res.bl r11) 0 (Blk.cells T_n0 [] true)) T_syntax_tokens 2 (fun rd12 => V.asSl (rd12 0) T_api_Token (fun es13 => V.asInt (rd12 1) .i64 (fun n14 => Res.onOut r11 (fun v15 => V.asTup v15 0 (fun rd16 => some ⟨Out.ret (V.tup []), [Blk.cells T_syntax_tokens [V.sl .no T_api_Token es13, V.int .i64 n14] false], none⟩)) (fun v15 => V.asIface v15 T_syntax_given (fun w16 => V.asAgg w16 2 (fun rd17 => V.asInt (rd17 0) .i64 (fun n18 => V.asInt (rd17 1) .i64 (fun n19 => some ⟨Out.pan (V.iface T_syntax_given (V.agg [V.int .i64 n18, V.int .i64 n19])), [Blk.cells T_syntax_tokens [V.sl .no T_api_Token es13, V.int .i64 n14] false], none⟩))))))))) else (some ⟨Out.ret (V.tup []), [Blk.cells T_syntax_tokens [V.sl .no T_api_Token es6, V.int .i64 n7] false], none⟩))))))) := (den_eq ..).trans (by kernel_rfl)
end syntax_tokens_need
namespace syntax_tokens_name
theorem eq (m0_0 : List (List V)) (m0_1 : Int) : den Sp id [V.ref 0 0] [Blk.cells T_syntax_tokens [V.sl .no T_api_Token m0_0, V.int .i64 m0_1] false] none =
  (if (((0 : Int) <= m0_1) ∧ (m0_1 < (m0_0.length : Int))) then (V.asInt (List.getD (List.getD m0_0 (Int.toNat m0_1) []) 0 V.undef) .i64 (fun n4 => V.asStr (List.getD (List.getD m0_0 (Int.toNat m0_1) []) 1 V.undef) (fun s5 => V.asInt (List.getD (List.getD m0_0 (Int.toNat m0_1) []) 2 V.undef) .i64 (fun n6 => V.asInt (List.getD (List.getD m0_0 (Int.toNat m0_1) []) 3 V.undef) .i64 (fun n7 => bif (n4 != (1 : Int)) then (den Sp syntax_tokens_wrong.id [V.ref 0 0] [Blk.cells T_syntax_tokens [V.sl .no T_api_Token m0_0, V.int .i64 m0_1] false] none).bind (fun r10 => Blk.asCells (List.getD (Res.bl r10) 0 (Blk.cells T_n0 [] true)) T_syntax_tokens 2 (fun rd11 => V.asSl (rd11 0) T_api_Token (fun es12 => V.asInt (rd11 1) .i64 (fun n13 => Res.onOut r10 (fun v14 => V.asTup v14 0 (fun rd15 => some ⟨Out.ret (V.str s5), [Blk.cells T_syntax_tokens [V.sl .no T_api_Token es12, V.int .i64 (IntKind.wrap .i64 (n13 + (1 : Int)))] false], none⟩)) (fun v14 => V.asIface v14 T_syntax_given (fun w15 => V.asAgg w15 2 (fun rd16 => V.asInt (rd16 0) .i64 (fun n17 => V.asInt (rd16 1) .i64 (fun n18 => some ⟨Out.pan (V.iface T_syntax_given (V.agg [V.int .i64 n17, V.int .i64 n18])), [Blk.cells T_syntax_tokens [V.sl .no T_api_Token es12, V.int .i64 n13] false], none⟩))))))))) else (some ⟨Out.ret (V.str s5), [Blk.cells T_syntax_tokens [V.sl .no T_api_Token m0_0, V.int .i64 (IntKind.wrap .i64 (m0_1 + (1 : Int)))] false], none⟩)))))) else none) := (den_eq ..).trans (by kernel_rfl)
end syntax_tokens_name
namespace syntax_tokens_deep
theorem eq (m0_0 : List (List V)) (m0_1 a1 : Int) (a2 : Bool) : den Sp id [V.ref 0 0, V.int .i64 a1, V.bool a2] [Blk.cells T_syntax_tokens [V.sl .no T_api_Token m0_0, V.int .i64 m0_1] false] none =
  (bif (!a2) then (den Sp syntax_tokens_wrong.id [V.ref 0 0] [Blk.cells T_syntax_tokens [V.sl .no T_api_Token m0_0, V.int .i64 m0_1] false] none).bind (fun r6 => Blk.asCells (List.getD (Res.bl r6) 0 (Blk.cells T_n0 [] true)) T_syntax_tokens 2 (fun rd7 => V.asSl (rd7 0) T_api_Token (fun es8 => V.asInt (rd7 1) .i64 (fun n9 => Res.onOut r6 (fun v10 => V.asTup v10 0 (fun rd11 => bif (decide (a1 > (60 : Int))) then (if (((0 : Int) <= n9) ∧ (n9 < (es8.length : Int))) then (V.asInt (List.getD (List.getD es8 (Int.toNat n9) []) 3 V.undef) .i64 (fun n14 => some ⟨Out.pan (V.iface T_syntax_given (V.agg [V.int .i64 n14, V.int .i64 (31 : Int)])), [Blk.cells T_syntax_tokens [V.sl .no T_api_Token es8, V.int .i64 n9] false], none⟩)) else none) else (some ⟨Out.ret (V.tup []), [Blk.cells T_syntax_tokens [V.sl .no T_api_Token es8, V.int .i64 n9] false], none⟩))) (fun v10 => V.asIface v10 T_syntax_given (fun w11 => V.asAgg w11 2 (fun rd12 => V.asInt (rd12 0) .i64 (fun n13 => V.asInt (rd12 1) .i64 (fun n14 => some ⟨Out.pan (V.iface T_syntax_given (V.agg [V.int .i64 n13, V.int .i64 n14])), [Blk.cells T_syntax_tokens [V.sl .no T_api_Token es8, V.int .i64 n9] false], none⟩))))))))) else (bif (decide (a1 > (60 : Int))) then (if (((0 : Int) <= m0_1) ∧ (m0_1 < (m0_0.length : Int))) then (V.asInt (List.getD (List.getD m0_0 (Int.toNat m0_1) []) 3 V.undef) .i64 (fun n7 => some ⟨Out.pan (V.iface T_syntax_given (V.agg [V.int .i64 n7, V.int .i64 (31 : Int)])), [Blk.cells T_syntax_tokens [V.sl .no T_api_Token m0_0, V.int .i64 m0_1] false], none⟩)) else none) else (some ⟨Out.ret (V.tup []), [Blk.cells T_syntax_tokens [V.sl .no T_api_Token m0_0, V.int .i64 m0_1] false], none⟩))) := (den_eq ..).trans (by kernel_rfl)
end syntax_tokens_deep
namespace syntax_reader_begins
theorem eq (m0_0 : List (List V)) (m0_1 : Int) (m0_2 : List (List V)) : den Sp id [V.ref 0 0] [Blk.cells T_syntax_reader [V.sl .no T_api_Token m0_0, V.int .i64 m0_1, V.sl .no T_L_int m0_2] false] none =
  (if (((0 : Int) <= m0_1) ∧ (m0_1 < (m0_0.length : Int))) then (V.asInt (List.getD (List.getD m0_0 (Int.toNat m0_1) []) 0 V.undef) .i64 (fun n5 => V.asStr (List.getD (List.getD m0_0 (Int.toNat m0_1) []) 1 V.undef) (fun s6 => V.asInt (List.getD (List.getD m0_0 (Int.toNat m0_1) []) 2 V.undef) .i64 (fun n7 => V.asInt (List.getD (List.getD m0_0 (Int.toNat m0_1) []) 3 V.undef) .i64 (fun n8 => bif (n5 == (1 : Int)) then (some ⟨Out.ret (V.bool true), [Blk.cells T_syntax_reader [V.sl .no T_api_Token m0_0, V.int .i64 m0_1, V.sl .no T_L_int m0_2] false], none⟩) else (bif (n5 == (2 : Int)) then (some ⟨Out.ret (V.bool true), [Blk.cells T_syntax_reader [V.sl .no T_api_Token m0_0, V.int .i64 m0_1, V.sl .no T_L_int m0_2] false], none⟩) else (den Sp syntax_tokens_is.id [V.ref 0 0, V.str (ByteArray.mk #[116, 114, 117, 101])] [Blk.cells T_syntax_tokens [V.sl .no T_api_Token m0_0, V.int .i64 m0_1] false] none).bind (fun r10 => Blk.asCells (List.getD (Res.bl r10) 0 (Blk.cells T_n0 [] true)) T_syntax_tokens 2 (fun rd11 => V.asSl (rd11 0) T_api_Token (fun es12 => V.asInt (rd11 1) .i64 (fun n13 => Res.onRet r10 (fun v14 => V.asBool v14 (fun b15 => bif b15 then (some ⟨Out.ret (V.bool true), [Blk.cells T_syntax_reader [V.sl .no T_api_Token es12, V.int .i64 n13, V.sl .no T_L_int m0_2] false], none⟩) else (den Sp syntax_tokens_is.id [V.ref 0 0, V.str (ByteArray.mk #[102, 97, 108, 115, 101])] [Blk.cells T_syntax_tokens [V.sl .no T_api_Token es12, V.int .i64 n13] false] none).bind (fun r16 => Blk.asCells (List.getD (Res.bl r16) 0 (Blk.cells T_n0 [] true)) T_syntax_tokens 2 (fun rd17 => V.asSl (rd17 0) T_api_Token (fun es18 => V.asInt (rd17 1) .i64 (fun n19 => Res.onRet r16 (fun v20 => V.asBool v20 (fun b21 => bif b21 then (some ⟨Out.ret (V.bool true), [Blk.cells T_syntax_reader [V.sl .no T_api_Token es18, V.int .i64 n19, V.sl .no T_L_int m0_2] false], none⟩) else (den Sp syntax_tokens_is.id [V.ref 0 0, V.str (ByteArray.mk #[40])] [Blk.cells T_syntax_tokens [V.sl .no T_api_Token es18, V.int .i64 n19] false] none).bind (fun r22 => Blk.asCells (List.getD (Res.bl r22) 0 (Blk.cells T_n0 [] true)) T_syntax_tokens 2 (fun rd23 => V.asSl (rd23 0) T_api_Token (fun es24 => V.asInt (rd23 1) .i64 (fun n25 => Res.onRet r22 (fun v26 => V.asBool v26 (fun b27 => bif b27 then (some ⟨Out.ret (V.bool true), [Blk.cells T_syntax_reader [V.sl .no T_api_Token es24, V.int .i64 n25, V.sl .no T_L_int m0_2] false], none⟩) else (den Sp syntax_tokens_is.id [V.ref 0 0, V.str (ByteArray.mk #[45])] [Blk.cells T_syntax_tokens [V.sl .no T_api_Token es24, V.int .i64 n25] false] none).bind (fun r28 => Blk.asCells (List.getD (Res.bl r28) 0 (Blk.cells T_n0 [] true)) T_syntax_tokens 2 (fun rd29 => V.asSl (rd29 0) T_api_Token (fun es30 => V.asInt (rd29 1) .i64 (fun n31 => Res.onRet r28 (fun v32 => V.asBool v32 (fun b33 => bif b33 then (some ⟨Out.ret (V.bool true), [Blk.cells T_syntax_reader [V.sl .no T_api_Token es30, V.int .i64 n31, V.sl .no T_L_int m0_2] false], none⟩) else (den Sp syntax_tokens_is.id [V.ref 0 0, V.str (ByteArray.mk #[33])] [Blk.cells T_syntax_tokens [V.sl .no T_api_Token es30, V.int .i64 n31] false] none).bind (fun r34 => Blk.asCells (List.getD (Res.bl r34) 0 (Blk.cells T_n0 [] true)) T_syntax_tokens 2 (fun rd35 => V.asSl (rd35 0) T_api_Token (fun es36 => V.asInt (rd35 1) .i64 (fun n37 => Res.onRet r34 (fun v38 => V.asBool v38 (fun b39 => some ⟨Out.ret (V.bool b39), [Blk.cells T_syntax_reader [V.sl .no T_api_Token es36, V.int .i64 n37, V.sl .no T_L_int m0_2] false], none⟩)))))))))))))))))))))))))))))))))))) else none) := (den_eq ..).trans (by kernel_rfl)
end syntax_reader_begins
namespace syntax_reader_sign
theorem eq (m0_0 : List (List V)) (m0_1 : Int) (m0_2 : List (List V)) (a1 : Int) : den Sp id [V.ref 0 0, V.int .i64 a1] [Blk.cells T_syntax_reader [V.sl .no T_api_Token m0_0, V.int .i64 m0_1, V.sl .no T_L_int m0_2] false] none =
  (if (((0 : Int) <= m0_1) ∧ (m0_1 < (m0_0.length : Int))) then (V.asInt (List.getD (List.getD m0_0 (Int.toNat m0_1) []) 0 V.undef) .i64 (fun n6 => V.asStr (List.getD (List.getD m0_0 (Int.toNat m0_1) []) 1 V.undef) (fun s7 => V.asInt (List.getD (List.getD m0_0 (Int.toNat m0_1) []) 2 V.undef) .i64 (fun n8 => V.asInt (List.getD (List.getD m0_0 (Int.toNat m0_1) []) 3 V.undef) .i64 (fun n9 => bif (n6 != (4 : Int)) then (some ⟨Out.ret (V.str (ByteArray.mk #[])), [Blk.cells T_syntax_reader [V.sl .no T_api_Token m0_0, V.int .i64 m0_1, V.sl .no T_L_int m0_2] false], none⟩) else (den Sp syntax_level.id [V.str s7] [] none).bind (fun r11 => Res.onRet r11 (fun v12 => V.asInt v12 .i64 (fun n13 => bif (n13 != a1) then (some ⟨Out.ret (V.str (ByteArray.mk #[])), [Blk.cells T_syntax_reader [V.sl .no T_api_Token m0_0, V.int .i64 m0_1, V.sl .no T_L_int m0_2] false], none⟩) else (some ⟨Out.ret (V.str s7), [Blk.cells T_syntax_reader [V.sl .no T_api_Token m0_0, V.int .i64 m0_1, V.sl .no T_L_int m0_2] false], none⟩))))))))) else none) := (den_eq ..).trans (by kernel_rfl)
end syntax_reader_sign
namespace syntax_level
theorem eq (a0 : ByteArray) : den Sp id [V.str a0] [] none =
  (bif (decide (a0 = (ByteArray.mk #[124, 124]))) then (some ⟨Out.ret (V.int .i64 (1 : Int)), [], none⟩) else (bif (decide (a0 = (ByteArray.mk #[38, 38]))) then (some ⟨Out.ret (V.int .i64 (2 : Int)), [], none⟩) else (bif (decide (a0 = (ByteArray.mk #[61, 61]))) then (some ⟨Out.ret (V.int .i64 (3 : Int)), [], none⟩) else (bif (decide (a0 = (ByteArray.mk #[33, 61]))) then (some ⟨Out.ret (V.int .i64 (3 : Int)), [], none⟩) else (bif (decide (a0 = (ByteArray.mk #[60]))) then (some ⟨Out.ret (V.int .i64 (3 : Int)), [], none⟩) else (bif (decide (a0 = (ByteArray.mk #[60, 61]))) then (some ⟨Out.ret (V.int .i64 (3 : Int)), [], none⟩) else (bif (decide (a0 = (ByteArray.mk #[43]))) then (some ⟨Out.ret (V.int .i64 (4 : Int)), [], none⟩) else (bif (decide (a0 = (ByteArray.mk #[45]))) then (some ⟨Out.ret (V.int .i64 (4 : Int)), [], none⟩) else (bif (decide (a0 = (ByteArray.mk #[42]))) then (some ⟨Out.ret (V.int .i64 (5 : Int)), [], none⟩) else (bif (decide (a0 = (ByteArray.mk #[47]))) then (some ⟨Out.ret (V.int .i64 (5 : Int)), [], none⟩) else (bif (decide (a0 = (ByteArray.mk #[37]))) then (some ⟨Out.ret (V.int .i64 (5 : Int)), [], none⟩) else (some ⟨Out.ret (V.int .i64 (0 : Int)), [], none⟩)))))))))))) := (den_eq ..).trans (by kernel_rfl)
end syntax_level
end Go.Proofs.YtmhnmelaodhemaaGreatDoor
namespace Go.Proofs.YtmhnmelaodhemaaGreatDoor
open Go Go.Proofs.Ab Go.Proofs.Px
def Par.sizes : List Par -> Nat
 | [] => 0
 | x :: l => x.name.length / 8 + Par.sizes l
theorem Par.sizes_drop {l : List Par} {i : Nat} (h : i < l.length) : Par.sizes (l.drop i) = l[i].name.length / 8 + Par.sizes (l.drop (i + 1)) := by
 rw [List.drop_eq_getElem_cons h, Par.sizes]
def Prc.size (p : Prc) : Nat := 1 + p.name.length / 8 + p.params.length + Par.sizes p.params + Stm.sizes p.body
def Prc.sizes : List Prc -> Nat
 | [] => 0
 | x :: l => x.size + Prc.sizes l
theorem Prc.sizes_drop {l : List Prc} {i : Nat} (h : i < l.length) : Prc.sizes (l.drop i) = l[i].size + Prc.sizes (l.drop (i + 1)) := by
 rw [List.drop_eq_getElem_cons h, Prc.sizes]
theorem Prc.size_mem : ∀ {l : List Prc} {x : Prc}, x ∈ l -> x.size <= Prc.sizes l
 | y :: l, x, h => by
  rw [Prc.sizes]
  rcases List.mem_cons.1 h with rfl | h
  ·omega
  ·have := Prc.size_mem h; omega
theorem Prc.sizes_len : ∀ l : List Prc, l.length <= Prc.sizes l
 | [] => Nat.zero_le _
 | x :: l => by rw [Prc.sizes]; have := Prc.sizes_len l; unfold Prc.size; simp only [List.length_cons]; omega
theorem most_if {R : Type} {n : Nat} (h : n <= 1099511627776) (a b : Option R) : (if n <= most then a else b) = a := if_pos h
namespace Stm
mutual
def flat : Stm -> List Stm
 | .mk k n p m e b l => .mk k n p m e b l :: (flats b ++ flats l)
def flats : List Stm -> List Stm
 | [] => []
 | x :: l => flat x ++ flats l
end
mutual
theorem flat_len : ∀ x : Stm, (flat x).length = x.count
 | .mk k n p m e b l => by rw [flat, count, List.length_cons, List.length_append, flats_len b, flats_len l]; omega
theorem flats_len : ∀ l : List Stm, (flats l).length = counts l
 | [] => rfl
 | x :: l => by rw [flats, counts, List.length_append, flat_len x, flats_len l]
end
mutual
def item : Stm -> Int -> Int -> List (Stm × Int)
 | .mk k n p m e b l, next, last => (.mk k n p m e b l, last) :: (items b (next + 1) (next + 1 + (counts b : Int) - 1) ++ items l (next + 1 + (counts b : Int)) (next + 1 + (counts b : Int) + (counts l : Int) - 1))
def items : List Stm -> Int -> Int -> List (Stm × Int)
 | [], _, _ => []
 | x :: l, next, last => item x next last ++ items l (next + (count x : Int)) last
end
mutual
theorem item_fst : ∀ (x : Stm) (next last : Int), (item x next last).map (·.1) = flat x
 | .mk k n p m e b l, next, last => by rw [item, flat, List.map_cons, List.map_append, items_fst b, items_fst l]
theorem items_fst : ∀ (l : List Stm) (next last : Int), (items l next last).map (·.1) = flats l
 | [], _, _ => by rw [items, flats]; rfl
 | x :: l, next, last => by rw [items, flats, List.map_append, item_fst x, items_fst l]
end
end Stm
def scopeP (name : List UInt8) (mark : Int) (v : Vr) : Bool := decide (v.name = name) && decide (v.frm <= mark) && decide (mark <= v.to)
def findV (name : List UInt8) (mark : Int) : List Vr -> Option Vr
 | [] => none
 | v :: l => if scopeP name mark v then some v else findV name mark l
def arityP (k : Int) : Int := if k = 1 ∨ k = 2 ∨ k = 3 then 0 else if k = 4 ∨ k = 5 then 1 else if k = 6 then 2 else -1
def twoT (s : List UInt8) (a b : Int) : Int × Int :=
 if s = [43] ∨ s = [45] ∨ s = [42] ∨ s = [47] ∨ s = [37] then (if a = 1 ∧ b = 1 then (0, 1) else (41, 0))
 else if s = [60] ∨ s = [60, 61] then (if a = 1 ∧ b = 1 then (0, 2) else (41, 0))
 else if s = [38, 38] ∨ s = [124, 124] then (if a = 2 ∧ b = 2 then (0, 2) else (41, 0))
 else if s = [61, 61] ∨ s = [33, 61] then (if a = b then (0, 2) else (41, 0))
 else (32, 0)
def tyK (vs : List Vr) (mark : Int) (k : Int) (s : List UInt8) (m : Int) (n : Nat) (rs : List (Int × Int)) : Int × Int :=
 if arityP k ≠ (n : Int) then (32, 0)
 else if k = 1 then (if 0 <= m then (0, 1) else (32, 0))
 else if k = 2 then (if m = 0 ∨ m = 1 then (0, 2) else (32, 0))
 else if k = 3 then (match findV s mark vs with | none => (40, 0) | some v => if v.size = 0 then (0, v.type) else (41, 0))
 else match rs with
  | [a] => if k = 4 then (match findV s mark vs with | none => (40, 0) | some v => if 0 < v.size then (if a.1 ≠ 0 then (a.1, 0) else if a.2 = 1 then (0, 1) else (41, 0)) else (41, 0))
   else if a.1 ≠ 0 then (a.1, 0) else if s = [45] then (if a.2 = 1 then (0, a.2) else (41, 0)) else if s = [33] then (if a.2 = 2 then (0, a.2) else (41, 0)) else (32, 0)
  | [a, b] => if a.1 ≠ 0 then (a.1, 0) else if b.1 ≠ 0 then (b.1, 0) else twoT s a.2 b.2
  | _ => (32, 0)
mutual
def tyP (vs : List Vr) (mark : Int) : Ex -> Int × Int
 | .mk k s m l => tyK vs mark k s m l.length (tyPs vs mark l)
def tyPs (vs : List Vr) (mark : Int) : List Ex -> List (Int × Int)
 | [] => []
 | x :: l => tyP vs mark x :: tyPs vs mark l
end
mutual
def Stm.ends : Stm -> Bool
 | .mk k _ _ _ _ b l => decide (k = 7) || (decide (k = 4) && Stm.endss b && Stm.endss l)
def Stm.endss : List Stm -> Bool
 | [] => false
 | x :: l => Stm.ends x || Stm.endss l
end
def vrows (l : List (List Vr)) : List (List V) := l.map fun r => [.sl .no T_api_Var (r.map Vr.v)]
@[simp] theorem vrows_len (l : List (List Vr)) : (vrows l).length = l.length := by simp [vrows]
end Go.Proofs.YtmhnmelaodhemaaGreatDoor
namespace Go.Proofs.YtmhnmelaodhemaaGreatDoor
open Go Go.Proofs.Ab
namespace syntax_plain
theorem eq (a0_0 : Int) (a0_1 : ByteArray) (a0_2 : Int) (a0_3 : List (List V)) : den Sp id [V.agg [V.int .i64 a0_0, V.str a0_1, V.int .i64 a0_2, V.sl .no T_api_Expr a0_3]] [] none =
  (bif (a0_0 != (1 : Int)) then (bif (!((!(decide (a0_1 = (ByteArray.mk #[])))) == (a0_0 != (2 : Int)))) then (some ⟨Out.ret (V.bool false), [], none⟩) else (bif (a0_2 != (0 : Int)) then (bif (a0_0 != (1 : Int)) then (bif (a0_0 != (2 : Int)) then (some ⟨Out.ret (V.bool false), [], none⟩) else (bif (a0_0 == (1 : Int)) then (bif (decide (a0_2 >= (0 : Int))) then (some ⟨Out.ret (V.bool ((a0_3.length : Int) == (0 : Int))), [], none⟩) else (some ⟨Out.ret (V.bool false), [], none⟩)) else (bif (a0_0 == (2 : Int)) then (bif (a0_2 == (0 : Int)) then (some ⟨Out.ret (V.bool ((a0_3.length : Int) == (0 : Int))), [], none⟩) else (bif (a0_2 == (1 : Int)) then (some ⟨Out.ret (V.bool ((a0_3.length : Int) == (0 : Int))), [], none⟩) else (some ⟨Out.ret (V.bool false), [], none⟩))) else (bif (a0_0 == (3 : Int)) then (some ⟨Out.ret (V.bool ((a0_3.length : Int) == (0 : Int))), [], none⟩) else (bif (a0_0 == (4 : Int)) then (some ⟨Out.ret (V.bool ((a0_3.length : Int) == (1 : Int))), [], none⟩) else (bif (a0_0 == (5 : Int)) then (bif (decide (a0_1 = (ByteArray.mk #[45]))) then (some ⟨Out.ret (V.bool ((a0_3.length : Int) == (1 : Int))), [], none⟩) else (bif (decide (a0_1 = (ByteArray.mk #[33]))) then (some ⟨Out.ret (V.bool ((a0_3.length : Int) == (1 : Int))), [], none⟩) else (some ⟨Out.ret (V.bool false), [], none⟩))) else (bif (a0_0 == (6 : Int)) then (den Sp syntax_level.id [V.str a0_1] [] none).bind (fun r14 => Res.onRet r14 (fun v15 => V.asInt v15 .i64 (fun n16 => bif (decide (n16 > (0 : Int))) then (some ⟨Out.ret (V.bool ((a0_3.length : Int) == (2 : Int))), [], none⟩) else (some ⟨Out.ret (V.bool false), [], none⟩)))) else (some ⟨Out.ret (V.bool false), [], none⟩)))))))) else (bif (a0_0 == (1 : Int)) then (bif (decide (a0_2 >= (0 : Int))) then (some ⟨Out.ret (V.bool ((a0_3.length : Int) == (0 : Int))), [], none⟩) else (some ⟨Out.ret (V.bool false), [], none⟩)) else (bif (a0_0 == (2 : Int)) then (bif (a0_2 == (0 : Int)) then (some ⟨Out.ret (V.bool ((a0_3.length : Int) == (0 : Int))), [], none⟩) else (bif (a0_2 == (1 : Int)) then (some ⟨Out.ret (V.bool ((a0_3.length : Int) == (0 : Int))), [], none⟩) else (some ⟨Out.ret (V.bool false), [], none⟩))) else (bif (a0_0 == (3 : Int)) then (some ⟨Out.ret (V.bool ((a0_3.length : Int) == (0 : Int))), [], none⟩) else (bif (a0_0 == (4 : Int)) then (some ⟨Out.ret (V.bool ((a0_3.length : Int) == (1 : Int))), [], none⟩) else (bif (a0_0 == (5 : Int)) then (bif (decide (a0_1 = (ByteArray.mk #[45]))) then (some ⟨Out.ret (V.bool ((a0_3.length : Int) == (1 : Int))), [], none⟩) else (bif (decide (a0_1 = (ByteArray.mk #[33]))) then (some ⟨Out.ret (V.bool ((a0_3.length : Int) == (1 : Int))), [], none⟩) else (some ⟨Out.ret (V.bool false), [], none⟩))) else (bif (a0_0 == (6 : Int)) then (den Sp syntax_level.id [V.str a0_1] [] none).bind (fun r14 => Res.onRet r14 (fun v15 => V.asInt v15 .i64 (fun n16 => bif (decide (n16 > (0 : Int))) then (some ⟨Out.ret (V.bool ((a0_3.length : Int) == (2 : Int))), [], none⟩) else (some ⟨Out.ret (V.bool false), [], none⟩)))) else (some ⟨Out.ret (V.bool false), [], none⟩)))))))) else (bif (a0_0 == (1 : Int)) then (bif (decide (a0_2 >= (0 : Int))) then (some ⟨Out.ret (V.bool ((a0_3.length : Int) == (0 : Int))), [], none⟩) else (some ⟨Out.ret (V.bool false), [], none⟩)) else (bif (a0_0 == (2 : Int)) then (bif (a0_2 == (0 : Int)) then (some ⟨Out.ret (V.bool ((a0_3.length : Int) == (0 : Int))), [], none⟩) else (bif (a0_2 == (1 : Int)) then (some ⟨Out.ret (V.bool ((a0_3.length : Int) == (0 : Int))), [], none⟩) else (some ⟨Out.ret (V.bool false), [], none⟩))) else (bif (a0_0 == (3 : Int)) then (some ⟨Out.ret (V.bool ((a0_3.length : Int) == (0 : Int))), [], none⟩) else (bif (a0_0 == (4 : Int)) then (some ⟨Out.ret (V.bool ((a0_3.length : Int) == (1 : Int))), [], none⟩) else (bif (a0_0 == (5 : Int)) then (bif (decide (a0_1 = (ByteArray.mk #[45]))) then (some ⟨Out.ret (V.bool ((a0_3.length : Int) == (1 : Int))), [], none⟩) else (bif (decide (a0_1 = (ByteArray.mk #[33]))) then (some ⟨Out.ret (V.bool ((a0_3.length : Int) == (1 : Int))), [], none⟩) else (some ⟨Out.ret (V.bool false), [], none⟩))) else (bif (a0_0 == (6 : Int)) then (den Sp syntax_level.id [V.str a0_1] [] none).bind (fun r14 => Res.onRet r14 (fun v15 => V.asInt v15 .i64 (fun n16 => bif (decide (n16 > (0 : Int))) then (some ⟨Out.ret (V.bool ((a0_3.length : Int) == (2 : Int))), [], none⟩) else (some ⟨Out.ret (V.bool false), [], none⟩)))) else (some ⟨Out.ret (V.bool false), [], none⟩))))))))) else (bif (!((!(decide (a0_1 = (ByteArray.mk #[])))) == false)) then (some ⟨Out.ret (V.bool false), [], none⟩) else (bif (a0_2 != (0 : Int)) then (bif (a0_0 != (1 : Int)) then (bif (a0_0 != (2 : Int)) then (some ⟨Out.ret (V.bool false), [], none⟩) else (bif (a0_0 == (1 : Int)) then (bif (decide (a0_2 >= (0 : Int))) then (some ⟨Out.ret (V.bool ((a0_3.length : Int) == (0 : Int))), [], none⟩) else (some ⟨Out.ret (V.bool false), [], none⟩)) else (bif (a0_0 == (2 : Int)) then (bif (a0_2 == (0 : Int)) then (some ⟨Out.ret (V.bool ((a0_3.length : Int) == (0 : Int))), [], none⟩) else (bif (a0_2 == (1 : Int)) then (some ⟨Out.ret (V.bool ((a0_3.length : Int) == (0 : Int))), [], none⟩) else (some ⟨Out.ret (V.bool false), [], none⟩))) else (bif (a0_0 == (3 : Int)) then (some ⟨Out.ret (V.bool ((a0_3.length : Int) == (0 : Int))), [], none⟩) else (bif (a0_0 == (4 : Int)) then (some ⟨Out.ret (V.bool ((a0_3.length : Int) == (1 : Int))), [], none⟩) else (bif (a0_0 == (5 : Int)) then (bif (decide (a0_1 = (ByteArray.mk #[45]))) then (some ⟨Out.ret (V.bool ((a0_3.length : Int) == (1 : Int))), [], none⟩) else (bif (decide (a0_1 = (ByteArray.mk #[33]))) then (some ⟨Out.ret (V.bool ((a0_3.length : Int) == (1 : Int))), [], none⟩) else (some ⟨Out.ret (V.bool false), [], none⟩))) else (bif (a0_0 == (6 : Int)) then (den Sp syntax_level.id [V.str a0_1] [] none).bind (fun r14 => Res.onRet r14 (fun v15 => V.asInt v15 .i64 (fun n16 => bif (decide (n16 > (0 : Int))) then (some ⟨Out.ret (V.bool ((a0_3.length : Int) == (2 : Int))), [], none⟩) else (some ⟨Out.ret (V.bool false), [], none⟩)))) else (some ⟨Out.ret (V.bool false), [], none⟩)))))))) else (bif (a0_0 == (1 : Int)) then (bif (decide (a0_2 >= (0 : Int))) then (some ⟨Out.ret (V.bool ((a0_3.length : Int) == (0 : Int))), [], none⟩) else (some ⟨Out.ret (V.bool false), [], none⟩)) else (bif (a0_0 == (2 : Int)) then (bif (a0_2 == (0 : Int)) then (some ⟨Out.ret (V.bool ((a0_3.length : Int) == (0 : Int))), [], none⟩) else (bif (a0_2 == (1 : Int)) then (some ⟨Out.ret (V.bool ((a0_3.length : Int) == (0 : Int))), [], none⟩) else (some ⟨Out.ret (V.bool false), [], none⟩))) else (bif (a0_0 == (3 : Int)) then (some ⟨Out.ret (V.bool ((a0_3.length : Int) == (0 : Int))), [], none⟩) else (bif (a0_0 == (4 : Int)) then (some ⟨Out.ret (V.bool ((a0_3.length : Int) == (1 : Int))), [], none⟩) else (bif (a0_0 == (5 : Int)) then (bif (decide (a0_1 = (ByteArray.mk #[45]))) then (some ⟨Out.ret (V.bool ((a0_3.length : Int) == (1 : Int))), [], none⟩) else (bif (decide (a0_1 = (ByteArray.mk #[33]))) then (some ⟨Out.ret (V.bool ((a0_3.length : Int) == (1 : Int))), [], none⟩) else (some ⟨Out.ret (V.bool false), [], none⟩))) else (bif (a0_0 == (6 : Int)) then (den Sp syntax_level.id [V.str a0_1] [] none).bind (fun r14 => Res.onRet r14 (fun v15 => V.asInt v15 .i64 (fun n16 => bif (decide (n16 > (0 : Int))) then (some ⟨Out.ret (V.bool ((a0_3.length : Int) == (2 : Int))), [], none⟩) else (some ⟨Out.ret (V.bool false), [], none⟩)))) else (some ⟨Out.ret (V.bool false), [], none⟩)))))))) else (bif (a0_0 == (1 : Int)) then (bif (decide (a0_2 >= (0 : Int))) then (some ⟨Out.ret (V.bool ((a0_3.length : Int) == (0 : Int))), [], none⟩) else (some ⟨Out.ret (V.bool false), [], none⟩)) else (bif (a0_0 == (2 : Int)) then (bif (a0_2 == (0 : Int)) then (some ⟨Out.ret (V.bool ((a0_3.length : Int) == (0 : Int))), [], none⟩) else (bif (a0_2 == (1 : Int)) then (some ⟨Out.ret (V.bool ((a0_3.length : Int) == (0 : Int))), [], none⟩) else (some ⟨Out.ret (V.bool false), [], none⟩))) else (bif (a0_0 == (3 : Int)) then (some ⟨Out.ret (V.bool ((a0_3.length : Int) == (0 : Int))), [], none⟩) else (bif (a0_0 == (4 : Int)) then (some ⟨Out.ret (V.bool ((a0_3.length : Int) == (1 : Int))), [], none⟩) else (bif (a0_0 == (5 : Int)) then (bif (decide (a0_1 = (ByteArray.mk #[45]))) then (some ⟨Out.ret (V.bool ((a0_3.length : Int) == (1 : Int))), [], none⟩) else (bif (decide (a0_1 = (ByteArray.mk #[33]))) then (some ⟨Out.ret (V.bool ((a0_3.length : Int) == (1 : Int))), [], none⟩) else (some ⟨Out.ret (V.bool false), [], none⟩))) else (bif (a0_0 == (6 : Int)) then (den Sp syntax_level.id [V.str a0_1] [] none).bind (fun r14 => Res.onRet r14 (fun v15 => V.asInt v15 .i64 (fun n16 => bif (decide (n16 > (0 : Int))) then (some ⟨Out.ret (V.bool ((a0_3.length : Int) == (2 : Int))), [], none⟩) else (some ⟨Out.ret (V.bool false), [], none⟩)))) else (some ⟨Out.ret (V.bool false), [], none⟩)))))))))) := (den_eq ..).trans (by kernel_rfl)
end syntax_plain
namespace syntax_writer_put
theorem eq (m0_0 : List (List V)) (m0_1 : Bool) (m0_2 : Int) (a1 : List (List V)) : den Sp id [V.ref 0 0, V.sl .no T_string a1] [Blk.cells T_syntax_writer [V.sl (Tok.row 0) T_string m0_0, V.bool m0_1, V.int .i64 m0_2] false] none =
  (if (((List.length m0_0) + (List.length a1)) <= most) then (some ⟨Out.ret (V.tup []), [Blk.cells T_syntax_writer [V.sl (Tok.row 0) T_string (m0_0 ++ a1), V.bool m0_1, V.int .i64 m0_2] false], none⟩) else none) := (den_eq ..).trans (by kernel_rfl)
end syntax_writer_put
namespace syntax_writer_need
theorem eq (m0_0 : List (List V)) (m0_1 : Bool) (m0_2 : Int) (a1 : Bool) : den Sp id [V.ref 0 0, V.bool a1] [Blk.cells T_syntax_writer [V.sl (Tok.row 0) T_string m0_0, V.bool m0_1, V.int .i64 m0_2] false] none =
  (bif m0_1 then (some ⟨Out.ret (V.tup []), [Blk.cells T_syntax_writer [V.sl (Tok.row 0) T_string m0_0, V.bool true, V.int .i64 m0_2] false], none⟩) else (some ⟨Out.ret (V.tup []), [Blk.cells T_syntax_writer [V.sl (Tok.row 0) T_string m0_0, V.bool (!a1), V.int .i64 m0_2] false], none⟩)) := (den_eq ..).trans (by kernel_rfl)
end syntax_writer_need
namespace syntax_writer_name
theorem eq (m0_0 : List (List V)) (m0_1 : Bool) (m0_2 : Int) (a1 : ByteArray) : den Sp id [V.ref 0 0, V.str a1] [Blk.cells T_syntax_writer [V.sl (Tok.row 0) T_string m0_0, V.bool m0_1, V.int .i64 m0_2] false] none =
  (den Sp lex_IsName.id [V.str a1] [] none).bind (fun r5 => Res.onRet r5 (fun v6 => V.asBool v6 (fun b7 => (den Sp syntax_writer_need.id [V.ref 0 0, V.bool b7] [Blk.cells T_syntax_writer [V.sl (Tok.row 0) T_string m0_0, V.bool m0_1, V.int .i64 m0_2] false] none).bind (fun r8 => Blk.asCells (List.getD (Res.bl r8) 0 (Blk.cells T_n0 [] true)) T_syntax_writer 3 (fun rd9 => V.asSlR (rd9 0) 0 T_string (fun es10 => V.asBool (rd9 1) (fun b11 => V.asInt (rd9 2) .i64 (fun n12 => Res.onRet r8 (fun v13 => V.asTup v13 0 (fun rd14 => (den Sp syntax_writer_put.id [V.ref 0 0, V.sl .no T_string [[V.str a1]]] [Blk.cells T_syntax_writer [V.sl (Tok.row 0) T_string es10, V.bool b11, V.int .i64 n12] false] none).bind (fun r16 => Blk.asCells (List.getD (Res.bl r16) 0 (Blk.cells T_n0 [] true)) T_syntax_writer 3 (fun rd17 => V.asSlR (rd17 0) 0 T_string (fun es18 => V.asBool (rd17 1) (fun b19 => V.asInt (rd17 2) .i64 (fun n20 => Res.onRet r16 (fun v21 => V.asTup v21 0 (fun rd22 => some ⟨Out.ret (V.tup []), [Blk.cells T_syntax_writer [V.sl (Tok.row 0) T_string es18, V.bool b19, V.int .i64 n20] false], none⟩))))))))))))))))) := (den_eq ..).trans (by kernel_rfl)
end syntax_writer_name
namespace syntax_writer_expr
theorem eq (m0_0 : List (List V)) (m0_1 : Bool) (m0_2 a1_0 : Int) (a1_1 : ByteArray) (a1_2 : Int) (a1_3 : List (List V)) (a2 : Int) : den Sp id [V.ref 0 0, V.agg [V.int .i64 a1_0, V.str a1_1, V.int .i64 a1_2, V.sl .no T_api_Expr a1_3], V.int .i64 a2] [Blk.cells T_syntax_writer [V.sl (Tok.row 0) T_string m0_0, V.bool m0_1, V.int .i64 m0_2] false] none =
  (den Sp syntax_plain.id [V.agg [V.int .i64 a1_0, V.str a1_1, V.int .i64 a1_2, V.sl .no T_api_Expr a1_3]] [] none).bind (fun r11 => Res.onRet r11 (fun v12 => V.asBool v12 (fun b13 => (den Sp syntax_writer_need.id [V.ref 0 0, V.bool b13] [Blk.cells T_syntax_writer [V.sl (Tok.row 0) T_string m0_0, V.bool m0_1, V.int .i64 (if (a2 > m0_2) then a2 else m0_2)] false] none).bind (fun r14 => Blk.asCells (List.getD (Res.bl r14) 0 (Blk.cells T_n0 [] true)) T_syntax_writer 3 (fun rd15 => V.asSlR (rd15 0) 0 T_string (fun es16 => V.asBool (rd15 1) (fun b17 => V.asInt (rd15 2) .i64 (fun n18 => Res.onRet r14 (fun v19 => V.asTup v19 0 (fun rd20 => bif b17 then (some ⟨Out.ret (V.tup []), [Blk.cells T_syntax_writer [V.sl (Tok.row 0) T_string es16, V.bool b17, V.int .i64 n18] false], none⟩) else (bif (a1_0 == (1 : Int)) then (den Sp num_Text.id [V.int .i64 a1_2] [] none).bind (fun r25 => Res.onRet r25 (fun v26 => V.asStr v26 (fun s27 => (den Sp syntax_writer_put.id [V.ref 0 0, V.sl .no T_string [[V.str s27]]] [Blk.cells T_syntax_writer [V.sl (Tok.row 0) T_string es16, V.bool b17, V.int .i64 n18] false] none).bind (fun r28 => Blk.asCells (List.getD (Res.bl r28) 0 (Blk.cells T_n0 [] true)) T_syntax_writer 3 (fun rd29 => V.asSlR (rd29 0) 0 T_string (fun es30 => V.asBool (rd29 1) (fun b31 => V.asInt (rd29 2) .i64 (fun n32 => Res.onRet r28 (fun v33 => V.asTup v33 0 (fun rd34 => some ⟨Out.ret (V.tup []), [Blk.cells T_syntax_writer [V.sl (Tok.row 0) T_string es30, V.bool b31, V.int .i64 n32] false], none⟩)))))))))) else (bif (a1_0 == (2 : Int)) then (bif (a1_2 == (1 : Int)) then (den Sp syntax_writer_put.id [V.ref 0 0, V.sl .no T_string [[V.str (ByteArray.mk #[116, 114, 117, 101])]]] [Blk.cells T_syntax_writer [V.sl (Tok.row 0) T_string es16, V.bool b17, V.int .i64 n18] false] none).bind (fun r27 => Blk.asCells (List.getD (Res.bl r27) 0 (Blk.cells T_n0 [] true)) T_syntax_writer 3 (fun rd28 => V.asSlR (rd28 0) 0 T_string (fun es29 => V.asBool (rd28 1) (fun b30 => V.asInt (rd28 2) .i64 (fun n31 => Res.onRet r27 (fun v32 => V.asTup v32 0 (fun rd33 => some ⟨Out.ret (V.tup []), [Blk.cells T_syntax_writer [V.sl (Tok.row 0) T_string es29, V.bool b30, V.int .i64 n31] false], none⟩))))))) else (den Sp syntax_writer_put.id [V.ref 0 0, V.sl .no T_string [[V.str (ByteArray.mk #[102, 97, 108, 115, 101])]]] [Blk.cells T_syntax_writer [V.sl (Tok.row 0) T_string es16, V.bool b17, V.int .i64 n18] false] none).bind (fun r27 => Blk.asCells (List.getD (Res.bl r27) 0 (Blk.cells T_n0 [] true)) T_syntax_writer 3 (fun rd28 => V.asSlR (rd28 0) 0 T_string (fun es29 => V.asBool (rd28 1) (fun b30 => V.asInt (rd28 2) .i64 (fun n31 => Res.onRet r27 (fun v32 => V.asTup v32 0 (fun rd33 => some ⟨Out.ret (V.tup []), [Blk.cells T_syntax_writer [V.sl (Tok.row 0) T_string es29, V.bool b30, V.int .i64 n31] false], none⟩)))))))) else (bif (a1_0 == (3 : Int)) then (den Sp syntax_writer_name.id [V.ref 0 0, V.str a1_1] [Blk.cells T_syntax_writer [V.sl (Tok.row 0) T_string es16, V.bool b17, V.int .i64 n18] false] none).bind (fun r27 => Blk.asCells (List.getD (Res.bl r27) 0 (Blk.cells T_n0 [] true)) T_syntax_writer 3 (fun rd28 => V.asSlR (rd28 0) 0 T_string (fun es29 => V.asBool (rd28 1) (fun b30 => V.asInt (rd28 2) .i64 (fun n31 => Res.onRet r27 (fun v32 => V.asTup v32 0 (fun rd33 => bif (a1_0 == (4 : Int)) then (den Sp syntax_writer_put.id [V.ref 0 0, V.sl .no T_string [[V.str (ByteArray.mk #[91])]]] [Blk.cells T_syntax_writer [V.sl (Tok.row 0) T_string es29, V.bool b30, V.int .i64 n31] false] none).bind (fun r36 => Blk.asCells (List.getD (Res.bl r36) 0 (Blk.cells T_n0 [] true)) T_syntax_writer 3 (fun rd37 => V.asSlR (rd37 0) 0 T_string (fun es38 => V.asBool (rd37 1) (fun b39 => V.asInt (rd37 2) .i64 (fun n40 => Res.onRet r36 (fun v41 => V.asTup v41 0 (fun rd42 => if (((0 : Int) <= (0 : Int)) ∧ ((0 : Int) < (a1_3.length : Int))) then (V.asInt (List.getD (List.getD a1_3 0 []) 0 V.undef) .i64 (fun n44 => V.asStr (List.getD (List.getD a1_3 0 []) 1 V.undef) (fun s45 => V.asInt (List.getD (List.getD a1_3 0 []) 2 V.undef) .i64 (fun n46 => V.asSl (List.getD (List.getD a1_3 0 []) 3 V.undef) T_api_Expr (fun es47 => (den Sp syntax_writer_expr.id [V.ref 0 0, V.agg [V.int .i64 n44, V.str s45, V.int .i64 n46, V.sl .no T_api_Expr es47], V.int .i64 (IntKind.wrap .i64 (a2 + (1 : Int)))] [Blk.cells T_syntax_writer [V.sl (Tok.row 0) T_string es38, V.bool b39, V.int .i64 n40] false] none).bind (fun r48 => Blk.asCells (List.getD (Res.bl r48) 0 (Blk.cells T_n0 [] true)) T_syntax_writer 3 (fun rd49 => V.asSlR (rd49 0) 0 T_string (fun es50 => V.asBool (rd49 1) (fun b51 => V.asInt (rd49 2) .i64 (fun n52 => Res.onRet r48 (fun v53 => V.asTup v53 0 (fun rd54 => (den Sp syntax_writer_put.id [V.ref 0 0, V.sl .no T_string [[V.str (ByteArray.mk #[93])]]] [Blk.cells T_syntax_writer [V.sl (Tok.row 0) T_string es50, V.bool b51, V.int .i64 n52] false] none).bind (fun r56 => Blk.asCells (List.getD (Res.bl r56) 0 (Blk.cells T_n0 [] true)) T_syntax_writer 3 (fun rd57 => V.asSlR (rd57 0) 0 T_string (fun es58 => V.asBool (rd57 1) (fun b59 => V.asInt (rd57 2) .i64 (fun n60 => Res.onRet r56 (fun v61 => V.asTup v61 0 (fun rd62 => some ⟨Out.ret (V.tup []), [Blk.cells T_syntax_writer [V.sl (Tok.row 0) T_string es58, V.bool b59, V.int .i64 n60] false], none⟩))))))))))))))))))) else none))))))) else (some ⟨Out.ret (V.tup []), [Blk.cells T_syntax_writer [V.sl (Tok.row 0) T_string es29, V.bool b30, V.int .i64 n31] false], none⟩)))))))) else (bif (a1_0 == (4 : Int)) then (den Sp syntax_writer_name.id [V.ref 0 0, V.str a1_1] [Blk.cells T_syntax_writer [V.sl (Tok.row 0) T_string es16, V.bool b17, V.int .i64 n18] false] none).bind (fun r28 => Blk.asCells (List.getD (Res.bl r28) 0 (Blk.cells T_n0 [] true)) T_syntax_writer 3 (fun rd29 => V.asSlR (rd29 0) 0 T_string (fun es30 => V.asBool (rd29 1) (fun b31 => V.asInt (rd29 2) .i64 (fun n32 => Res.onRet r28 (fun v33 => V.asTup v33 0 (fun rd34 => bif (a1_0 == (4 : Int)) then (den Sp syntax_writer_put.id [V.ref 0 0, V.sl .no T_string [[V.str (ByteArray.mk #[91])]]] [Blk.cells T_syntax_writer [V.sl (Tok.row 0) T_string es30, V.bool b31, V.int .i64 n32] false] none).bind (fun r37 => Blk.asCells (List.getD (Res.bl r37) 0 (Blk.cells T_n0 [] true)) T_syntax_writer 3 (fun rd38 => V.asSlR (rd38 0) 0 T_string (fun es39 => V.asBool (rd38 1) (fun b40 => V.asInt (rd38 2) .i64 (fun n41 => Res.onRet r37 (fun v42 => V.asTup v42 0 (fun rd43 => if (((0 : Int) <= (0 : Int)) ∧ ((0 : Int) < (a1_3.length : Int))) then (V.asInt (List.getD (List.getD a1_3 0 []) 0 V.undef) .i64 (fun n45 => V.asStr (List.getD (List.getD a1_3 0 []) 1 V.undef) (fun s46 => V.asInt (List.getD (List.getD a1_3 0 []) 2 V.undef) .i64 (fun n47 => V.asSl (List.getD (List.getD a1_3 0 []) 3 V.undef) T_api_Expr (fun es48 => (den Sp syntax_writer_expr.id [V.ref 0 0, V.agg [V.int .i64 n45, V.str s46, V.int .i64 n47, V.sl .no T_api_Expr es48], V.int .i64 (IntKind.wrap .i64 (a2 + (1 : Int)))] [Blk.cells T_syntax_writer [V.sl (Tok.row 0) T_string es39, V.bool b40, V.int .i64 n41] false] none).bind (fun r49 => Blk.asCells (List.getD (Res.bl r49) 0 (Blk.cells T_n0 [] true)) T_syntax_writer 3 (fun rd50 => V.asSlR (rd50 0) 0 T_string (fun es51 => V.asBool (rd50 1) (fun b52 => V.asInt (rd50 2) .i64 (fun n53 => Res.onRet r49 (fun v54 => V.asTup v54 0 (fun rd55 => (den Sp syntax_writer_put.id [V.ref 0 0, V.sl .no T_string [[V.str (ByteArray.mk #[93])]]] [Blk.cells T_syntax_writer [V.sl (Tok.row 0) T_string es51, V.bool b52, V.int .i64 n53] false] none).bind (fun r57 => Blk.asCells (List.getD (Res.bl r57) 0 (Blk.cells T_n0 [] true)) T_syntax_writer 3 (fun rd58 => V.asSlR (rd58 0) 0 T_string (fun es59 => V.asBool (rd58 1) (fun b60 => V.asInt (rd58 2) .i64 (fun n61 => Res.onRet r57 (fun v62 => V.asTup v62 0 (fun rd63 => some ⟨Out.ret (V.tup []), [Blk.cells T_syntax_writer [V.sl (Tok.row 0) T_string es59, V.bool b60, V.int .i64 n61] false], none⟩))))))))))))))))))) else none))))))) else (some ⟨Out.ret (V.tup []), [Blk.cells T_syntax_writer [V.sl (Tok.row 0) T_string es30, V.bool b31, V.int .i64 n32] false], none⟩)))))))) else (bif (a1_0 == (5 : Int)) then (den Sp syntax_writer_put.id [V.ref 0 0, V.sl .no T_string [[V.str a1_1]]] [Blk.cells T_syntax_writer [V.sl (Tok.row 0) T_string es16, V.bool b17, V.int .i64 n18] false] none).bind (fun r29 => Blk.asCells (List.getD (Res.bl r29) 0 (Blk.cells T_n0 [] true)) T_syntax_writer 3 (fun rd30 => V.asSlR (rd30 0) 0 T_string (fun es31 => V.asBool (rd30 1) (fun b32 => V.asInt (rd30 2) .i64 (fun n33 => Res.onRet r29 (fun v34 => V.asTup v34 0 (fun rd35 => if (((0 : Int) <= (0 : Int)) ∧ ((0 : Int) < (a1_3.length : Int))) then (V.asInt (List.getD (List.getD a1_3 0 []) 0 V.undef) .i64 (fun n38 => V.asStr (List.getD (List.getD a1_3 0 []) 1 V.undef) (fun s39 => V.asInt (List.getD (List.getD a1_3 0 []) 2 V.undef) .i64 (fun n40 => V.asSl (List.getD (List.getD a1_3 0 []) 3 V.undef) T_api_Expr (fun es41 => (den Sp syntax_writer_operand.id [V.ref 0 0, V.agg [V.int .i64 n38, V.str s39, V.int .i64 n40, V.sl .no T_api_Expr es41], V.int .i64 (IntKind.wrap .i64 (a2 + (1 : Int)))] [Blk.cells T_syntax_writer [V.sl (Tok.row 0) T_string es31, V.bool b32, V.int .i64 (if ((IntKind.wrap .i64 (a2 + (1 : Int))) > n33) then (IntKind.wrap .i64 (a2 + (1 : Int))) else n33)] false] none).bind (fun r42 => Blk.asCells (List.getD (Res.bl r42) 0 (Blk.cells T_n0 [] true)) T_syntax_writer 3 (fun rd43 => V.asSlR (rd43 0) 0 T_string (fun es44 => V.asBool (rd43 1) (fun b45 => V.asInt (rd43 2) .i64 (fun n46 => Res.onRet r42 (fun v47 => V.asTup v47 0 (fun rd48 => some ⟨Out.ret (V.tup []), [Blk.cells T_syntax_writer [V.sl (Tok.row 0) T_string es44, V.bool b45, V.int .i64 n46] false], none⟩)))))))))))) else none))))))) else (bif (a1_0 == (6 : Int)) then (if (((0 : Int) <= (0 : Int)) ∧ ((0 : Int) < (a1_3.length : Int))) then (V.asInt (List.getD (List.getD a1_3 0 []) 0 V.undef) .i64 (fun n30 => V.asStr (List.getD (List.getD a1_3 0 []) 1 V.undef) (fun s31 => V.asInt (List.getD (List.getD a1_3 0 []) 2 V.undef) .i64 (fun n32 => V.asSl (List.getD (List.getD a1_3 0 []) 3 V.undef) T_api_Expr (fun es33 => (den Sp syntax_writer_operand.id [V.ref 0 0, V.agg [V.int .i64 n30, V.str s31, V.int .i64 n32, V.sl .no T_api_Expr es33], V.int .i64 a2] [Blk.cells T_syntax_writer [V.sl (Tok.row 0) T_string es16, V.bool b17, V.int .i64 n18] false] none).bind (fun r34 => Blk.asCells (List.getD (Res.bl r34) 0 (Blk.cells T_n0 [] true)) T_syntax_writer 3 (fun rd35 => V.asSlR (rd35 0) 0 T_string (fun es36 => V.asBool (rd35 1) (fun b37 => V.asInt (rd35 2) .i64 (fun n38 => Res.onRet r34 (fun v39 => V.asTup v39 0 (fun rd40 => (den Sp syntax_writer_put.id [V.ref 0 0, V.sl .no T_string [[V.str a1_1]]] [Blk.cells T_syntax_writer [V.sl (Tok.row 0) T_string es36, V.bool b37, V.int .i64 n38] false] none).bind (fun r42 => Blk.asCells (List.getD (Res.bl r42) 0 (Blk.cells T_n0 [] true)) T_syntax_writer 3 (fun rd43 => V.asSlR (rd43 0) 0 T_string (fun es44 => V.asBool (rd43 1) (fun b45 => V.asInt (rd43 2) .i64 (fun n46 => Res.onRet r42 (fun v47 => V.asTup v47 0 (fun rd48 => if (((0 : Int) <= (1 : Int)) ∧ ((1 : Int) < (a1_3.length : Int))) then (V.asInt (List.getD (List.getD a1_3 1 []) 0 V.undef) .i64 (fun n50 => V.asStr (List.getD (List.getD a1_3 1 []) 1 V.undef) (fun s51 => V.asInt (List.getD (List.getD a1_3 1 []) 2 V.undef) .i64 (fun n52 => V.asSl (List.getD (List.getD a1_3 1 []) 3 V.undef) T_api_Expr (fun es53 => (den Sp syntax_writer_operand.id [V.ref 0 0, V.agg [V.int .i64 n50, V.str s51, V.int .i64 n52, V.sl .no T_api_Expr es53], V.int .i64 a2] [Blk.cells T_syntax_writer [V.sl (Tok.row 0) T_string es44, V.bool b45, V.int .i64 n46] false] none).bind (fun r54 => Blk.asCells (List.getD (Res.bl r54) 0 (Blk.cells T_n0 [] true)) T_syntax_writer 3 (fun rd55 => V.asSlR (rd55 0) 0 T_string (fun es56 => V.asBool (rd55 1) (fun b57 => V.asInt (rd55 2) .i64 (fun n58 => Res.onRet r54 (fun v59 => V.asTup v59 0 (fun rd60 => some ⟨Out.ret (V.tup []), [Blk.cells T_syntax_writer [V.sl (Tok.row 0) T_string es56, V.bool b57, V.int .i64 n58] false], none⟩)))))))))))) else none))))))))))))))))))) else none) else (some ⟨Out.ret (V.tup []), [Blk.cells T_syntax_writer [V.sl (Tok.row 0) T_string es16, V.bool b17, V.int .i64 n18] false], none⟩))))))))))))))))) := (den_eq ..).trans (by kernel_rfl)
end syntax_writer_expr
namespace syntax_writer_operand
theorem eq (m0_0 : List (List V)) (m0_1 : Bool) (m0_2 a1_0 : Int) (a1_1 : ByteArray) (a1_2 : Int) (a1_3 : List (List V)) (a2 : Int) : den Sp id [V.ref 0 0, V.agg [V.int .i64 a1_0, V.str a1_1, V.int .i64 a1_2, V.sl .no T_api_Expr a1_3], V.int .i64 a2] [Blk.cells T_syntax_writer [V.sl (Tok.row 0) T_string m0_0, V.bool m0_1, V.int .i64 m0_2] false] none =
  (bif (a1_0 == (6 : Int)) then (den Sp syntax_writer_put.id [V.ref 0 0, V.sl .no T_string [[V.str (ByteArray.mk #[40])]]] [Blk.cells T_syntax_writer [V.sl (Tok.row 0) T_string m0_0, V.bool m0_1, V.int .i64 m0_2] false] none).bind (fun r11 => Blk.asCells (List.getD (Res.bl r11) 0 (Blk.cells T_n0 [] true)) T_syntax_writer 3 (fun rd12 => V.asSlR (rd12 0) 0 T_string (fun es13 => V.asBool (rd12 1) (fun b14 => V.asInt (rd12 2) .i64 (fun n15 => Res.onRet r11 (fun v16 => V.asTup v16 0 (fun rd17 => (den Sp syntax_writer_expr.id [V.ref 0 0, V.agg [V.int .i64 a1_0, V.str a1_1, V.int .i64 a1_2, V.sl .no T_api_Expr a1_3], V.int .i64 (IntKind.wrap .i64 (a2 + (1 : Int)))] [Blk.cells T_syntax_writer [V.sl (Tok.row 0) T_string es13, V.bool b14, V.int .i64 n15] false] none).bind (fun r19 => Blk.asCells (List.getD (Res.bl r19) 0 (Blk.cells T_n0 [] true)) T_syntax_writer 3 (fun rd20 => V.asSlR (rd20 0) 0 T_string (fun es21 => V.asBool (rd20 1) (fun b22 => V.asInt (rd20 2) .i64 (fun n23 => Res.onRet r19 (fun v24 => V.asTup v24 0 (fun rd25 => (den Sp syntax_writer_put.id [V.ref 0 0, V.sl .no T_string [[V.str (ByteArray.mk #[41])]]] [Blk.cells T_syntax_writer [V.sl (Tok.row 0) T_string es21, V.bool b22, V.int .i64 n23] false] none).bind (fun r27 => Blk.asCells (List.getD (Res.bl r27) 0 (Blk.cells T_n0 [] true)) T_syntax_writer 3 (fun rd28 => V.asSlR (rd28 0) 0 T_string (fun es29 => V.asBool (rd28 1) (fun b30 => V.asInt (rd28 2) .i64 (fun n31 => Res.onRet r27 (fun v32 => V.asTup v32 0 (fun rd33 => some ⟨Out.ret (V.tup []), [Blk.cells T_syntax_writer [V.sl (Tok.row 0) T_string es29, V.bool b30, V.int .i64 n31] false], none⟩))))))))))))))))))))) else (den Sp syntax_writer_expr.id [V.ref 0 0, V.agg [V.int .i64 a1_0, V.str a1_1, V.int .i64 a1_2, V.sl .no T_api_Expr a1_3], V.int .i64 a2] [Blk.cells T_syntax_writer [V.sl (Tok.row 0) T_string m0_0, V.bool m0_1, V.int .i64 m0_2] false] none).bind (fun r11 => Blk.asCells (List.getD (Res.bl r11) 0 (Blk.cells T_n0 [] true)) T_syntax_writer 3 (fun rd12 => V.asSlR (rd12 0) 0 T_string (fun es13 => V.asBool (rd12 1) (fun b14 => V.asInt (rd12 2) .i64 (fun n15 => Res.onRet r11 (fun v16 => V.asTup v16 0 (fun rd17 => some ⟨Out.ret (V.tup []), [Blk.cells T_syntax_writer [V.sl (Tok.row 0) T_string es13, V.bool b14, V.int .i64 n15] false], none⟩)))))))) := (den_eq ..).trans (by kernel_rfl)
end syntax_writer_operand
namespace syntax_writer_done
theorem eq (m0_0 : List (List V)) (m0_1 : Bool) (m0_2 : Int) : den Sp id [V.ref 0 0] [Blk.cells T_syntax_writer [V.sl (Tok.row 0) T_string m0_0, V.bool m0_1, V.int .i64 m0_2] false] none =
  (bif m0_1 then (some ⟨Out.ret (V.tup [V.str (ByteArray.mk #[]), V.int .i64 (32 : Int)]), [Blk.cells T_syntax_writer [V.sl (Tok.row 0) T_string m0_0, V.bool m0_1, V.int .i64 m0_2] false], none⟩) else (bif (decide (m0_2 > (60 : Int))) then (some ⟨Out.ret (V.tup [V.str (ByteArray.mk #[]), V.int .i64 (31 : Int)]), [Blk.cells T_syntax_writer [V.sl (Tok.row 0) T_string m0_0, V.bool m0_1, V.int .i64 m0_2] false], none⟩) else (den Sp num_Join.id [V.sl .no T_string m0_0] [] none).bind (fun r7 => Res.onRet r7 (fun v8 => V.asStr v8 (fun s9 => some ⟨Out.ret (V.tup [V.str s9, V.int .i64 (0 : Int)]), [Blk.cells T_syntax_writer [V.sl (Tok.row 0) T_string m0_0, V.bool m0_1, V.int .i64 m0_2] false], none⟩))))) := (den_eq ..).trans (by kernel_rfl)
end syntax_writer_done
namespace syntax_PrintExpr
theorem eq (a0_0 : Int) (a0_1 : ByteArray) (a0_2 : Int) (a0_3 : List (List V)) : den Sp id [V.agg [V.int .i64 a0_0, V.str a0_1, V.int .i64 a0_2, V.sl .no T_api_Expr a0_3]] [] none =
  (den Sp syntax_writer_expr.id [V.ref 0 0, V.agg [V.int .i64 a0_0, V.str a0_1, V.int .i64 a0_2, V.sl .no T_api_Expr a0_3], V.int .i64 (1 : Int)] [Blk.cells T_syntax_writer [V.sl (Tok.row 0) T_string [], V.bool false, V.int .i64 (0 : Int)] false] none).bind (fun r7 => Blk.asCells (List.getD (Res.bl r7) 0 (Blk.cells T_n0 [] true)) T_syntax_writer 3 (fun rd8 => V.asSlR (rd8 0) 0 T_string (fun es9 => V.asBool (rd8 1) (fun b10 => V.asInt (rd8 2) .i64 (fun n11 => Res.onRet r7 (fun v12 => V.asTup v12 0 (fun rd13 => (den Sp syntax_writer_done.id [V.ref 0 0] [Blk.cells T_syntax_writer [V.sl (Tok.row 0) T_string es9, V.bool b10, V.int .i64 n11] false] none).bind (fun r15 => Blk.asCells (List.getD (Res.bl r15) 0 (Blk.cells T_n0 [] true)) T_syntax_writer 3 (fun rd16 => V.asSlR (rd16 0) 0 T_string (fun es17 => V.asBool (rd16 1) (fun b18 => V.asInt (rd16 2) .i64 (fun n19 => Res.onRet r15 (fun v20 => V.asTup v20 2 (fun rd21 => V.asStr (rd21 0) (fun s22 => V.asInt (rd21 1) .i64 (fun n23 => some ⟨Out.ret (V.tup [V.str s22, V.int .i64 n23]), [], none⟩)))))))))))))))) := (den_eq ..).trans (by kernel_rfl)
end syntax_PrintExpr
end Go.Proofs.YtmhnmelaodhemaaGreatDoor
namespace Go.Proofs.YtmhnmelaodhemaaGreatDoor
open Go Go.Proofs.Ab Go.Proofs.Px
theorem level_is (s : List UInt8) : den Sp syntax_level.id [.str (B s)] [] none = some ⟨.ret (.int .i64 (levelP s)), [], none⟩ := by
 rw [syntax_level.eq]
 unfold levelP
 by_cases h1 : s = [124, 124]
 ·subst h1; rfl
 by_cases h2 : s = [38, 38]
 ·subst h2; rfl
 by_cases h3 : s = [61, 61]
 ·subst h3; rfl
 by_cases h4 : s = [33, 61]
 ·subst h4; rfl
 by_cases h5 : s = [60]
 ·subst h5; rfl
 by_cases h6 : s = [60, 61]
 ·subst h6; rfl
 by_cases h7 : s = [43]
 ·subst h7; rfl
 by_cases h8 : s = [45]
 ·subst h8; rfl
 by_cases h9 : s = [42]
 ·subst h9; rfl
 by_cases h10 : s = [47]
 ·subst h10; rfl
 by_cases h11 : s = [37]
 ·subst h11; rfl
 simp [h1, h2, h3, h4, h5, h6, h7, h8, h9, h10, h11]
theorem plain_is (k : Int) (n : List UInt8) (m : Int) (l : List Ex) : den Sp syntax_plain.id [.agg (Ex.v (.mk k n m l))] [] none = some ⟨.ret (.bool (plainK k n m l.length)), [], none⟩ := by
 rw [Ex.v_mk, syntax_plain.eq, level_is, List.length_map]
 unfold plainK
 by_cases h1 : k = 1
 ·subst h1
  by_cases c1 : n = [] <;> by_cases c2 : 0 <= m <;> simp [c1, c2] <;> omega
 by_cases h2 : k = 2
 ·subst h2
  by_cases c1 : n = [] <;> by_cases c2 : m = 0 <;> by_cases c3 : m = 1 <;> simp [c1, c2, c3] <;> omega
 by_cases h3 : k = 3
 ·subst h3
  by_cases c1 : n = [] <;> by_cases c2 : m = 0 <;> simp [c1, c2] <;> omega
 by_cases h4 : k = 4
 ·subst h4
  by_cases c1 : n = [] <;> by_cases c2 : m = 0 <;> simp [c1, c2] <;> omega
 by_cases h5 : k = 5
 ·subst h5
  by_cases c1 : n = []
  ·subst c1; simp
  ·by_cases c2 : m = 0 <;> by_cases c3 : n = [45] <;> by_cases c4 : n = [33] <;> simp [c1, c2, c3, c4] <;> omega
 by_cases h6 : k = 6
 ·subst h6
  by_cases c1 : n = []
  ·subst c1; simp [levelP]
  ·by_cases c2 : m = 0 <;> by_cases c3 : 0 < levelP n <;> simp [c1, c2, c3] <;> omega
 by_cases c1 : n = [] <;> by_cases c2 : m = 0 <;> simp [h1, h2, h3, h4, h5, h6, c1, c2]
def wB (ws : List (List UInt8)) (b : Bool) (d : Int) : Blk := .cells T_syntax_writer [.sl (.row 0) T_string (sv ws), .bool b, .int .i64 d] false
theorem sv_append (a b : List (List UInt8)) : sv a ++ sv b = sv (a ++ b) := by simp [sv]
theorem put_is (ws l : List (List UInt8)) (b : Bool) (d : Int) (h : ws.length + l.length <= 1099511627776) : den Sp syntax_writer_put.id [.ref 0 0, .sl .no T_string (sv l)] [wB ws b d] none = some ⟨.ret (.tup []), [wB (ws ++ l) b d], none⟩ := by
 unfold wB
 rw [syntax_writer_put.eq, sv_len, sv_len, most_if h, sv_append]
theorem need_is (ws : List (List UInt8)) (b ok : Bool) (d : Int) : den Sp syntax_writer_need.id [.ref 0 0, .bool ok] [wB ws b d] none = some ⟨.ret (.tup []), [wB ws (b || !ok) d], none⟩ := by
 unfold wB
 rw [syntax_writer_need.eq]
 cases b <;> rfl
theorem wname_is (ws : List (List UInt8)) (n : List UInt8) (b : Bool) (d : Int) (hn : n.length <= 140737488351232) (h : ws.length + 1 <= 1099511627776) :
  den Sp syntax_writer_name.id [.ref 0 0, .str (B n)] [wB ws b d] none = some ⟨.ret (.tup []), [wB (ws ++ [n]) (b || !isName (B n)) d], none⟩ := by
 have e1 := need_is ws b (isName (B n)) d
 have e2 := put_is ws [n] (b || !isName (B n)) d (by simpa using h)
 unfold wB at *
 rw [syntax_writer_name.eq, lex_IsName_is _ (by rw [B_size]; omega)]
 simp [e1]
 rw [show ([[V.str (B n)]] : List (List V)) = sv [n] from rfl, e2]
 simp
def WrE (f : Nat) (x : Ex) (w : List (List UInt8)) (h : Int) (c : Nat) (e : Int) : Prop :=
 ∀ (ws : List (List UInt8)) (b : Bool) (d t : Int), 0 <= t -> t + 4 * (x.size : Int) + e <= 1099511627776 -> ws.length + c <= 1099511627776 ->
  ∃ (ws' : List (List UInt8)) (b' : Bool) (d' : Int), den Sp f [.ref 0 0, .agg x.v, .int .i64 t] [wB ws b d] none = some ⟨.ret (.tup []), [wB ws' b' d'], none⟩ ∧
   ws'.length <= ws.length + c ∧ b' = (b || !okX x) ∧ (b' = false -> ws' = ws ++ w ∧ d' = max d (t + h))
theorem operand_of (x : Ex) (hE : WrE syntax_writer_expr.id x (exW x) (hX x) (8 * x.size) 0) : WrE syntax_writer_operand.id x (sideW x.kind (exW x)) (sideH x.kind (hX x)) (8 * x.size + 2) 1 := by
 intro ws b d t ht ht2 hl
 have hp := Ex.size_pos x
 by_cases hk : x.kind = 6
 ·obtain ⟨ws1, b1, d1, e1, f1, f2, f3⟩ := hE (ws ++ [[40]]) b d (t + 1) (by omega) (by omega) (by simp; omega)
  have p1 : den Sp syntax_writer_put.id [.ref 0 0, .sl .no T_string [[.str (B [40])]]] [wB ws b d] none = _ := put_is ws [[40]] b d (by simp; omega)
  have p2 : den Sp syntax_writer_put.id [.ref 0 0, .sl .no T_string [[.str (B [41])]]] [wB ws1 b1 d1] none = _ := put_is ws1 [[41]] b1 d1 (by simp at f1 ⊢; omega)
  have w1 : IntKind.wrap .i64 (t + 1) = t + 1 := wrap_in (by omega) (by omega)
  refine ⟨ws1 ++ [[41]], b1, d1, ?_, by simp at f1 ⊢; omega, f2, fun h => ?_⟩
  ·unfold wB at *
   have e0 := Ex.v_is x
   rw [e0, syntax_writer_operand.eq, <- e0]
   simp [hk, p1, w1, e1, p2]
  ·obtain ⟨g1, g2⟩ := f3 h
   refine ⟨by rw [g1]; simp [sideW, hk], by rw [g2]; unfold sideH; rw [if_pos hk]; omega⟩
 ·obtain ⟨ws1, b1, d1, e1, f1, f2, f3⟩ := hE ws b d t ht (by omega) (by omega)
  refine ⟨ws1, b1, d1, ?_, by omega, f2, fun h => ?_⟩
  ·unfold wB at *
   have e0 := Ex.v_is x
   rw [e0, syntax_writer_operand.eq, <- e0]
   simp [hk, e1]
  ·obtain ⟨g1, g2⟩ := f3 h
   refine ⟨by rw [g1]; simp [sideW, hk], by rw [g2]; unfold sideH; rw [if_neg hk]⟩
theorem wexpr_is : ∀ x : Ex, ExOk x -> WrE syntax_writer_expr.id x (exW x) (hX x) (8 * x.size) 0 := by
 refine Ex.ind fun k n m l ih ho => ?_
 intro ws b d t ht ht2 hl
 obtain ⟨ok, on, om, ol, oh⟩ := ho.inv
 rw [Ex.size] at ht2 hl ⊢
 have e1 := plain_is k n m l
 have e2 := need_is ws b (plainK k n m l.length) (if t > d then t else d)
 rw [Ex.v_mk] at e1 ⊢
 rw [exW, hX, okX]
 cases hb : (b || !plainK k n m l.length) with
 | true =>
  refine ⟨ws, true, if t > d then t else d, ?_, by omega, ?_, nofun⟩
  ·unfold wB at *
   rw [syntax_writer_expr.eq]
   simp [e1, e2, hb]
  ·cases b <;> simp at hb ⊢
   simp [hb]
 | false =>
  obtain ⟨rfl, hp⟩ : b = false ∧ plainK k n m l.length = true := by
   cases b <;> simp at hb ⊢
   exact hb
  rw [hp] at e1 e2
  simp only [Bool.not_true, Bool.or_false, hp, Bool.true_and, Bool.false_or] at e2 ⊢
  have hm64 := om
  generalize hD : (if t > d then t else d) = D at e2
  have hD2 : D = max d t := by rw [<- hD]; split <;> omega
  have w1 : IntKind.wrap .i64 (t + 1) = t + 1 := wrap_in (by omega) (by omega)
  unfold wK hK
  rcases plain_forms hp with ⟨rfl, rfl, hm, rfl⟩ | ⟨rfl, rfl, hm, rfl⟩ | ⟨rfl, hn, rfl, rfl⟩ | ⟨rfl, hn, rfl, x, rfl⟩ | ⟨rfl, hn, rfl, x, rfl⟩ | ⟨rfl, hn, rfl, x, y, rfl⟩ <;> simp only [List.map_nil, List.map_cons] at e1 ⊢
  ·have p1 : den Sp syntax_writer_put.id [.ref 0 0, .sl .no T_string [[.str (B (decs m))]]] [wB ws false D] none = _ := put_is ws [decs m] false D (by simp; omega)
   obtain ⟨m1, m2⟩ := i64_bounds om
   refine ⟨ws ++ [decs m], false, D, ?_, by simp; omega, by simp [namedK, okXs], fun _ => ⟨by simp, by simp; omega⟩⟩
   unfold wB at *
   rw [syntax_writer_expr.eq]
   simp [e1, e2, hD, num_Text_is m m1 m2, p1]
  ·have p1 : den Sp syntax_writer_put.id [.ref 0 0, .sl .no T_string [[.str (B [116, 114, 117, 101])]]] [wB ws false D] none = _ := put_is ws [[116, 114, 117, 101]] false D (by simp; omega)
   have p2 : den Sp syntax_writer_put.id [.ref 0 0, .sl .no T_string [[.str (B [102, 97, 108, 115, 101])]]] [wB ws false D] none = _ := put_is ws [[102, 97, 108, 115, 101]] false D (by simp; omega)
   by_cases c : m = 1
   ·subst c
    refine ⟨ws ++ [[116, 114, 117, 101]], false, D, ?_, by simp; omega, by simp [namedK, okXs], fun _ => ⟨by simp, by simp; omega⟩⟩
    unfold wB at *
    rw [syntax_writer_expr.eq]
    simp [e1, e2, hD, p1]
   ·refine ⟨ws ++ [[102, 97, 108, 115, 101]], false, D, ?_, by simp; omega, by simp [namedK, okXs], fun _ => ⟨by simp [c], by simp; omega⟩⟩
    unfold wB at *
    rw [syntax_writer_expr.eq]
    simp [e1, e2, hD, c, p2]
  ·have p1 := wname_is ws n false D on (by omega)
   refine ⟨ws ++ [n], !isName (B n), D, ?_, by simp; omega, by simp [namedK, okXs], fun _ => ⟨by simp, by simp; omega⟩⟩
   unfold wB at *
   rw [syntax_writer_expr.eq]
   simp [e1, e2, hD, p1]
  ·have hsx : Ex.sizes [x] = x.size := by simp [Ex.sizes]
   have p1 := wname_is ws n false D on (by omega)
   rw [Bool.false_or] at p1
   have p2 : den Sp syntax_writer_put.id [.ref 0 0, .sl .no T_string [[.str (B [91])]]] [wB (ws ++ [n]) (!isName (B n)) D] none = _ := put_is (ws ++ [n]) [[91]] (!isName (B n)) D (by simp; omega)
   obtain ⟨ws1, b1, d1, q1, q2, q3, q4⟩ := ih x (by simp) (oh x (by simp)) (ws ++ [n, [91]]) (!isName (B n)) D (t + 1) (by omega) (by omega) (by simp; omega)
   have p3 : den Sp syntax_writer_put.id [.ref 0 0, .sl .no T_string [[.str (B [93])]]] [wB ws1 b1 d1] none = _ := put_is ws1 [[93]] b1 d1 (by simp at q2 ⊢; omega)
   refine ⟨ws1 ++ [[93]], b1, d1, ?_, by simp at q2 ⊢; omega, by rw [q3]; simp [namedK, okXs], fun h => ?_⟩
   ·unfold wB at *
    rw [syntax_writer_expr.eq]
    simp [e1, e2, hD, p1, p2, w1, q1, p3]
   ·obtain ⟨g1, g2⟩ := q4 h
    have ho : okX x = true := by
     rw [q3] at h
     cases c : okX x with
     | true => rfl
     | false => simp [c] at h
    obtain ⟨_, h0, _⟩ := okX_weigh x ho
    refine ⟨by rw [g1]; simp [exWs], ?_⟩
    rw [g2]; simp [hXs]; omega
  ·have hsx : Ex.sizes [x] = x.size := by simp [Ex.sizes]
   have p1 : den Sp syntax_writer_put.id [.ref 0 0, .sl .no T_string [[.str (B n)]]] [wB ws false D] none = _ := put_is ws [n] false D (by simp; omega)
   obtain ⟨ws1, b1, d1, q1, q2, q3, q4⟩ := operand_of x (ih x (by simp) (oh x (by simp))) (ws ++ [n]) false (if t + 1 > D then t + 1 else D) (t + 1) (by omega) (by omega) (by simp; omega)
   refine ⟨ws1, b1, d1, ?_, by simp at q2 ⊢; omega, by rw [q3]; simp [namedK, okXs], fun h => ?_⟩
   ·unfold wB at *
    rw [syntax_writer_expr.eq]
    simp [e1, e2, hD, p1, w1, q1]
   ·obtain ⟨g1, g2⟩ := q4 h
    have ho : okX x = true := by
     rw [q3] at h
     cases c : okX x with
     | true => rfl
     | false => simp [c] at h
    obtain ⟨_, h0, _⟩ := okX_weigh x ho
    refine ⟨by rw [g1]; simp [exWs], ?_⟩
    rw [g2]; simp [hXs]
    unfold sideH
    split <;> split <;> omega
  ·have hsx : Ex.sizes [x, y] = x.size + y.size := by simp [Ex.sizes]
   have p2 : ∀ (ws : List (List UInt8)) (b : Bool) (d : Int), ws.length + 1 <= 1099511627776 -> den Sp syntax_writer_put.id [.ref 0 0, .sl .no T_string [[.str (B n)]]] [wB ws b d] none = some ⟨.ret (.tup []), [wB (ws ++ [n]) b d], none⟩ := fun ws b d h => put_is ws [n] b d (by simpa using h)
   obtain ⟨ws1, b1, d1, q1, q2, q3, q4⟩ := operand_of x (ih x (by simp) (oh x (by simp))) ws false D t (by omega) (by omega) (by omega)
   have p3 := p2 ws1 b1 d1 (by omega)
   obtain ⟨ws2, b2, d2, r1, r2, r3, r4⟩ := operand_of y (ih y (by simp) (oh y (by simp))) (ws1 ++ [n]) b1 d1 t (by omega) (by omega) (by simp; omega)
   refine ⟨ws2, b2, d2, ?_, by simp at r2 ⊢; omega, by rw [r3, q3]; simp [namedK, okXs], fun h => ?_⟩
   ·unfold wB at *
    rw [syntax_writer_expr.eq]
    simp [e1, e2, hD, q1, p3, r1]
   ·obtain ⟨g1, g2⟩ := r4 h
    have h1 : b1 = false := by
     rw [r3] at h
     cases b1 <;> simp at h ⊢
    obtain ⟨g3, g4⟩ := q4 h1
    have ho : okX x = true := by
     rw [q3] at h1
     cases c : okX x with
     | true => rfl
     | false => simp [c] at h1
    obtain ⟨_, h0, _⟩ := okX_weigh x ho
    refine ⟨by rw [g1, g3]; simp [exWs], ?_⟩
    rw [g2, g4]; simp [hXs]
    unfold sideH
    split <;> split <;> omega
theorem done_is (ws : List (List UInt8)) (b : Bool) (d : Int) (hl : ws.length < 4611686018427387904) (hw : b = false -> ¬ 60 < d -> weighW ws <= 1099511627776) : den Sp syntax_writer_done.id [.ref 0 0] [wB ws b d] none =
  some ⟨.ret (if b then .tup [.str (B []), .int .i64 32] else if 60 < d then .tup [.str (B []), .int .i64 31] else .tup [.str (B (joinL ws)), .int .i64 0]), [wB ws b d], none⟩ := by
 unfold wB
 rw [syntax_writer_done.eq]
 cases b with
 | true => rfl
 | false =>
  by_cases c : 60 < d
  ·simp [c]
  ·simp [c, num_Join_is ws hl (hw rfl c)]
theorem syntax_PrintExpr_is (x : Ex) (ho : ExOk x) (hs : x.size <= 1000000) : den Sp syntax_PrintExpr.id [.agg x.v] [] none = some ⟨.ret (.tup [.str (B (prX x).1), .int .i64 (prX x).2]), [], none⟩ := by
 obtain ⟨ws, b, d, e1, e2, e3, e4⟩ := wexpr_is x ho [] false 0 1 (by omega) (by omega) (by simp; omega)
 have hw : b = false -> ¬ 60 < d -> weighW ws <= 1099511627776 := by
  intro hb _
  rw [(e4 hb).1]
  have ok : okX x = true := by
   rw [e3] at hb
   cases c : okX x with
   | true => rfl
   | false => simp [c] at hb
  have := (okX_weigh x ok).1
  simp; omega
 have e5 := done_is ws b d (by simp at e2; omega) hw
 have e1 : den Sp syntax_writer_expr.id [.ref 0 0, .agg x.v, .int .i64 1] [.cells T_syntax_writer [.sl (.row 0) T_string [], .bool false, .int .i64 0] false] none = _ := e1
 unfold wB at *
 have e0 := Ex.v_is x
 rw [e0, syntax_PrintExpr.eq, <- e0]
 unfold prX
 cases ok : okX x with
 | true =>
  simp only [ok, Bool.not_true, Bool.or_false] at e3
  subst e3
  obtain ⟨g1, g2⟩ := e4 rfl
  have h0 := (okX_weigh x ok).2.1
  have g3 : d = 1 + hX x := by omega
  subst g3
  rw [List.nil_append] at g1
  subst g1
  by_cases c : 60 < 1 + hX x <;> simp [e1, e5, c]
 | false =>
  simp only [ok, Bool.not_false, Bool.or_true] at e3
  subst e3
  simp [e1, e5]
end Go.Proofs.YtmhnmelaodhemaaGreatDoor
namespace Go.Proofs.YtmhnmelaodhemaaGreatDoor
open Go Go.Proofs.Ab
namespace decl_isName
noncomputable abbrev e (p : List Nat) := ev Sp (den Sp) id Tryz.f29.ntmps (cAt (bodyOf Tryz.f29) p)
noncomputable abbrev cn (n0 : List Nat) := canon Sp id n0
noncomputable abbrev K : K := kFin Sp (den Sp) Tryz.f29 0
noncomputable def L1_0_1_0 (l0 : List (List V)) (i1 i2 : Int) : Option Res := LP (e [1, 0, 1, 0, 0]) (cn []) (kBlk 0 (kSeq (e [1, 1]) (K))) ([(5, (V.sl .no T_string l0)), (6, (V.int .i64 i1)), (7, (V.int .i64 i2))], ⟨[], [], [], [], none⟩)
theorem L1_0_1_0_eq (l0 : List (List V)) (i1 i2 : Int) : L1_0_1_0 l0 i1 i2 =
  (bif (decide (i2 < i1)) then (if (((0 : Int) <= i2) ∧ (i2 < (l0.length : Int))) then (V.asStr (List.getD (List.getD l0 (Int.toNat i2) []) 0 V.undef) (fun s8 => (den Sp lex_IsName.id [V.str s8] [] none).bind (fun r10 => Res.onRet r10 (fun v11 => V.asBool v11 (fun b12 => bif (!b12) then (some ⟨Out.ret (V.bool false), [], none⟩) else (L1_0_1_0 l0 i1 (IntKind.wrap .i64 (i2 + (1 : Int))))))))) else none) else (some ⟨Out.ret (V.bool true), [], none⟩)) := (LP_eq ..).trans (by kernel_rfl)
theorem eq (a0 : (List (List V))) : den Sp id [V.sl .no T_string a0] [] none =
  (L1_0_1_0 a0 (a0.length : Int) (0 : Int)) := (den_eq ..).trans (by kernel_rfl)
end decl_isName
namespace decl_writer_names
noncomputable abbrev e (p : List Nat) := ev Sp (den Sp) id Tryz.f30.ntmps (cAt (bodyOf Tryz.f30) p)
noncomputable abbrev cn (n0 : List Nat) := canon Sp id n0
noncomputable abbrev K : K := kFin Sp (den Sp) Tryz.f30 1
noncomputable def L0_1_0 (l0 l1 : List (List V)) (i2 i3 : Int) (l4 : List (List V)) (b5 : Bool) : Option Res := LP (e [0, 1, 0, 0]) (cn [0]) (kBlk 0 (kSeq (e [1]) (K))) ([(0, (V.ref 0 0)), (1, (V.sl .no T_string l0)), (6, (V.sl .no T_string l1)), (7, (V.int .i64 i2)), (8, (V.int .i64 i3))], ⟨[(0, (Blk.cells T_decl_writer [V.sl (Tok.row 0) T_string l4, V.bool b5] false))], [0], [], [], none⟩)
theorem L0_1_0_eq (l0 l1 : List (List V)) (i2 i3 : Int) (l4 : List (List V)) (b5 : Bool) : L0_1_0 l0 l1 i2 i3 l4 b5 =
  (bif (decide (i3 < i2)) then (if (((0 : Int) <= i3) ∧ (i3 < (l1.length : Int))) then (V.asStr (List.getD (List.getD l1 (Int.toNat i3) []) 0 V.undef) (fun s12 => bif b5 then (L0_1_0 l0 l1 i2 (IntKind.wrap .i64 (i3 + (1 : Int))) l4 true) else (den Sp lex_IsName.id [V.str s12] [] none).bind (fun r14 => Res.onRet r14 (fun v15 => V.asBool v15 (fun b16 => bif (!b16) then (bif (!(decide (s12 = (ByteArray.mk #[40])))) then (L0_1_0 l0 l1 i2 (IntKind.wrap .i64 (i3 + (1 : Int))) l4 (!(decide (s12 = (ByteArray.mk #[41]))))) else (L0_1_0 l0 l1 i2 (IntKind.wrap .i64 (i3 + (1 : Int))) l4 false)) else (L0_1_0 l0 l1 i2 (IntKind.wrap .i64 (i3 + (1 : Int))) l4 false)))))) else none) else (if (((List.length l4) + (List.length l0)) <= most) then (some ⟨Out.ret (V.tup []), [Blk.cells T_decl_writer [V.sl (Tok.row 0) T_string (l4 ++ l0), V.bool b5] false], none⟩) else none)) := (LP_eq ..).trans (by kernel_rfl)
theorem eq (m0_0 : List (List V)) (m0_1 : Bool) (a1 : List (List V)) : den Sp id [V.ref 0 0, V.sl .no T_string a1] [Blk.cells T_decl_writer [V.sl (Tok.row 0) T_string m0_0, V.bool m0_1] false] none =
  (L0_1_0 a1 a1 (a1.length : Int) (0 : Int) m0_0 m0_1) := (den_eq ..).trans (by kernel_rfl)
end decl_writer_names
namespace decl_writer_side
theorem eq (m0_0 : List (List V)) (m0_1 : Bool) (a1 : Int) : den Sp id [V.ref 0 0, V.int .i64 a1] [Blk.cells T_decl_writer [V.sl (Tok.row 0) T_string m0_0, V.bool m0_1] false] none =
  (bif m0_1 then (bif (a1 == (1 : Int)) then (den Sp decl_writer_names.id [V.ref 0 0, V.sl .no T_string [[V.str (ByteArray.mk #[114, 105, 103, 104, 116])]]] [Blk.cells T_decl_writer [V.sl (Tok.row 0) T_string m0_0, V.bool true] false] none).bind (fun r6 => Blk.asCells (List.getD (Res.bl r6) 0 (Blk.cells T_n0 [] true)) T_decl_writer 2 (fun rd7 => V.asSlR (rd7 0) 0 T_string (fun es8 => V.asBool (rd7 1) (fun b9 => Res.onRet r6 (fun v10 => V.asTup v10 0 (fun rd11 => some ⟨Out.ret (V.tup []), [Blk.cells T_decl_writer [V.sl (Tok.row 0) T_string es8, V.bool b9] false], none⟩)))))) else (den Sp decl_writer_names.id [V.ref 0 0, V.sl .no T_string [[V.str (ByteArray.mk #[108, 101, 102, 116])]]] [Blk.cells T_decl_writer [V.sl (Tok.row 0) T_string m0_0, V.bool true] false] none).bind (fun r6 => Blk.asCells (List.getD (Res.bl r6) 0 (Blk.cells T_n0 [] true)) T_decl_writer 2 (fun rd7 => V.asSlR (rd7 0) 0 T_string (fun es8 => V.asBool (rd7 1) (fun b9 => Res.onRet r6 (fun v10 => V.asTup v10 0 (fun rd11 => some ⟨Out.ret (V.tup []), [Blk.cells T_decl_writer [V.sl (Tok.row 0) T_string es8, V.bool b9] false], none⟩))))))) else (bif (a1 != (0 : Int)) then (bif (a1 == (1 : Int)) then (den Sp decl_writer_names.id [V.ref 0 0, V.sl .no T_string [[V.str (ByteArray.mk #[114, 105, 103, 104, 116])]]] [Blk.cells T_decl_writer [V.sl (Tok.row 0) T_string m0_0, V.bool (a1 != (1 : Int))] false] none).bind (fun r6 => Blk.asCells (List.getD (Res.bl r6) 0 (Blk.cells T_n0 [] true)) T_decl_writer 2 (fun rd7 => V.asSlR (rd7 0) 0 T_string (fun es8 => V.asBool (rd7 1) (fun b9 => Res.onRet r6 (fun v10 => V.asTup v10 0 (fun rd11 => some ⟨Out.ret (V.tup []), [Blk.cells T_decl_writer [V.sl (Tok.row 0) T_string es8, V.bool b9] false], none⟩)))))) else (den Sp decl_writer_names.id [V.ref 0 0, V.sl .no T_string [[V.str (ByteArray.mk #[108, 101, 102, 116])]]] [Blk.cells T_decl_writer [V.sl (Tok.row 0) T_string m0_0, V.bool (a1 != (1 : Int))] false] none).bind (fun r6 => Blk.asCells (List.getD (Res.bl r6) 0 (Blk.cells T_n0 [] true)) T_decl_writer 2 (fun rd7 => V.asSlR (rd7 0) 0 T_string (fun es8 => V.asBool (rd7 1) (fun b9 => Res.onRet r6 (fun v10 => V.asTup v10 0 (fun rd11 => some ⟨Out.ret (V.tup []), [Blk.cells T_decl_writer [V.sl (Tok.row 0) T_string es8, V.bool b9] false], none⟩))))))) else (bif (a1 == (1 : Int)) then (den Sp decl_writer_names.id [V.ref 0 0, V.sl .no T_string [[V.str (ByteArray.mk #[114, 105, 103, 104, 116])]]] [Blk.cells T_decl_writer [V.sl (Tok.row 0) T_string m0_0, V.bool false] false] none).bind (fun r6 => Blk.asCells (List.getD (Res.bl r6) 0 (Blk.cells T_n0 [] true)) T_decl_writer 2 (fun rd7 => V.asSlR (rd7 0) 0 T_string (fun es8 => V.asBool (rd7 1) (fun b9 => Res.onRet r6 (fun v10 => V.asTup v10 0 (fun rd11 => some ⟨Out.ret (V.tup []), [Blk.cells T_decl_writer [V.sl (Tok.row 0) T_string es8, V.bool b9] false], none⟩)))))) else (den Sp decl_writer_names.id [V.ref 0 0, V.sl .no T_string [[V.str (ByteArray.mk #[108, 101, 102, 116])]]] [Blk.cells T_decl_writer [V.sl (Tok.row 0) T_string m0_0, V.bool false] false] none).bind (fun r6 => Blk.asCells (List.getD (Res.bl r6) 0 (Blk.cells T_n0 [] true)) T_decl_writer 2 (fun rd7 => V.asSlR (rd7 0) 0 T_string (fun es8 => V.asBool (rd7 1) (fun b9 => Res.onRet r6 (fun v10 => V.asTup v10 0 (fun rd11 => some ⟨Out.ret (V.tup []), [Blk.cells T_decl_writer [V.sl (Tok.row 0) T_string es8, V.bool b9] false], none⟩))))))))) := (den_eq ..).trans (by kernel_rfl)
end decl_writer_side
namespace decl_writer_end
theorem eq (m0_0 : List (List V)) (m0_1 : Bool) : den Sp id [V.ref 0 0] [Blk.cells T_decl_writer [V.sl (Tok.row 0) T_string m0_0, V.bool m0_1] false] none =
  (if (((List.length m0_0) + 1) <= most) then (some ⟨Out.ret (V.tup []), [Blk.cells T_decl_writer [V.sl (Tok.row 0) T_string (m0_0 ++ [[V.str (ByteArray.mk #[59])]]), V.bool m0_1] false], none⟩) else none) := (den_eq ..).trans (by kernel_rfl)
end decl_writer_end
namespace decl_writer_stop
noncomputable abbrev e (p : List Nat) := ev Sp (den Sp) id Tryz.f33.ntmps (cAt (bodyOf Tryz.f33) p)
noncomputable abbrev cn (n0 : List Nat) := canon Sp id n0
noncomputable abbrev K : K := kFin Sp (den Sp) Tryz.f33 1
noncomputable def L1_1_1_1_1_1_0_1_0 (l0 : List (List V)) (i1 i2 : Int) (l3 : List (List V)) (i4 : Int) (s5 : ByteArray) (i6 : Int) (l7 : List (List V)) : Option Res := LP (e [1, 1, 1, 1, 1, 1, 0, 1, 0, 0]) (cn [0, 1003]) (kBlk 0 (kSeq (e [1, 1, 1, 1, 1, 1, 1]) (K))) ([(0, (V.ref 0 0)), (51, (V.sl .no T_api_Expr l0)), (52, (V.int .i64 i1)), (53, (V.int .i64 i2))], ⟨[(0, (Blk.cells T_decl_writer [V.sl (Tok.row 0) T_string l3, V.bool true] false)), (1003, (Blk.cells T_decl_Break [V.int .i64 i4, V.str s5, V.int .i64 i6, V.sl .no T_api_Expr l7] false))], [0], [], [], none⟩)
noncomputable def L1_1_1_1_1_1_0_1_0v1 (l0 : List (List V)) (i1 i2 : Int) (l3 : List (List V)) (b4 : Bool) (i5 : Int) (s6 : ByteArray) (i7 : Int) (l8 : List (List V)) : Option Res := LP (e [1, 1, 1, 1, 1, 1, 0, 1, 0, 0]) (cn [0, 1003]) (kBlk 0 (kSeq (e [1, 1, 1, 1, 1, 1, 1]) (K))) ([(0, (V.ref 0 0)), (51, (V.sl .no T_api_Expr l0)), (52, (V.int .i64 i1)), (53, (V.int .i64 i2))], ⟨[(0, (Blk.cells T_decl_writer [V.sl (Tok.row 0) T_string l3, V.bool b4] false)), (1003, (Blk.cells T_decl_Break [V.int .i64 i5, V.str s6, V.int .i64 i7, V.sl .no T_api_Expr l8] false))], [0], [], [], none⟩)
theorem L1_1_1_1_1_1_0_1_0_eq (l0 : List (List V)) (i1 i2 : Int) (l3 : List (List V)) (i4 : Int) (s5 : ByteArray) (i6 : Int) (l7 : List (List V)) : L1_1_1_1_1_1_0_1_0 l0 i1 i2 l3 i4 s5 i6 l7 =
  (bif (decide (i2 < i1)) then (if (((0 : Int) <= i2) ∧ (i2 < (l0.length : Int))) then (V.asInt (List.getD (List.getD l0 (Int.toNat i2) []) 0 V.undef) .i64 (fun n44 => V.asStr (List.getD (List.getD l0 (Int.toNat i2) []) 1 V.undef) (fun s45 => V.asInt (List.getD (List.getD l0 (Int.toNat i2) []) 2 V.undef) .i64 (fun n46 => V.asSl (List.getD (List.getD l0 (Int.toNat i2) []) 3 V.undef) T_api_Expr (fun es47 => (den Sp syntax_PrintExpr.id [V.agg [V.int .i64 n44, V.str s45, V.int .i64 n46, V.sl .no T_api_Expr es47]] [] none).bind (fun r49 => Res.onRet r49 (fun v50 => V.asTup v50 2 (fun rd51 => V.asStr (rd51 0) (fun s52 => V.asInt (rd51 1) .i64 (fun n53 => if (((List.length l3) + (List.length [[V.str (ByteArray.mk #[119, 104, 101, 110])], [V.str s52]])) <= most) then (L1_1_1_1_1_1_0_1_0 l0 i1 (IntKind.wrap .i64 (i2 + (1 : Int))) (l3 ++ [[V.str (ByteArray.mk #[119, 104, 101, 110])], [V.str s52]]) i4 s5 i6 l7) else none)))))))))) else none) else (den Sp decl_writer_end.id [V.ref 0 0] [Blk.cells T_decl_writer [V.sl (Tok.row 0) T_string l3, V.bool true] false] none).bind (fun r44 => Blk.asCells (List.getD (Res.bl r44) 0 (Blk.cells T_n0 [] true)) T_decl_writer 2 (fun rd45 => V.asSlR (rd45 0) 0 T_string (fun es46 => V.asBool (rd45 1) (fun b47 => Res.onRet r44 (fun v48 => V.asTup v48 0 (fun rd49 => some ⟨Out.ret (V.tup []), [Blk.cells T_decl_writer [V.sl (Tok.row 0) T_string es46, V.bool b47] false], none⟩))))))) := (LP_eq ..).trans (by kernel_rfl)
theorem L1_1_1_1_1_1_0_1_0v1_eq (l0 : List (List V)) (i1 i2 : Int) (l3 : List (List V)) (b4 : Bool) (i5 : Int) (s6 : ByteArray) (i7 : Int) (l8 : List (List V)) : L1_1_1_1_1_1_0_1_0v1 l0 i1 i2 l3 b4 i5 s6 i7 l8 =
  (bif (decide (i2 < i1)) then (if (((0 : Int) <= i2) ∧ (i2 < (l0.length : Int))) then (V.asInt (List.getD (List.getD l0 (Int.toNat i2) []) 0 V.undef) .i64 (fun n45 => V.asStr (List.getD (List.getD l0 (Int.toNat i2) []) 1 V.undef) (fun s46 => V.asInt (List.getD (List.getD l0 (Int.toNat i2) []) 2 V.undef) .i64 (fun n47 => V.asSl (List.getD (List.getD l0 (Int.toNat i2) []) 3 V.undef) T_api_Expr (fun es48 => (den Sp syntax_PrintExpr.id [V.agg [V.int .i64 n45, V.str s46, V.int .i64 n47, V.sl .no T_api_Expr es48]] [] none).bind (fun r50 => Res.onRet r50 (fun v51 => V.asTup v51 2 (fun rd52 => V.asStr (rd52 0) (fun s53 => V.asInt (rd52 1) .i64 (fun n54 => bif b4 then (if (((List.length l3) + (List.length [[V.str (ByteArray.mk #[119, 104, 101, 110])], [V.str s53]])) <= most) then (L1_1_1_1_1_1_0_1_0 l0 i1 (IntKind.wrap .i64 (i2 + (1 : Int))) (l3 ++ [[V.str (ByteArray.mk #[119, 104, 101, 110])], [V.str s53]]) i5 s6 i7 l8) else none) else (if (((List.length l3) + (List.length [[V.str (ByteArray.mk #[119, 104, 101, 110])], [V.str s53]])) <= most) then (L1_1_1_1_1_1_0_1_0v1 l0 i1 (IntKind.wrap .i64 (i2 + (1 : Int))) (l3 ++ [[V.str (ByteArray.mk #[119, 104, 101, 110])], [V.str s53]]) (n54 != (0 : Int)) i5 s6 i7 l8) else none))))))))))) else none) else (den Sp decl_writer_end.id [V.ref 0 0] [Blk.cells T_decl_writer [V.sl (Tok.row 0) T_string l3, V.bool b4] false] none).bind (fun r45 => Blk.asCells (List.getD (Res.bl r45) 0 (Blk.cells T_n0 [] true)) T_decl_writer 2 (fun rd46 => V.asSlR (rd46 0) 0 T_string (fun es47 => V.asBool (rd46 1) (fun b48 => Res.onRet r45 (fun v49 => V.asTup v49 0 (fun rd50 => some ⟨Out.ret (V.tup []), [Blk.cells T_decl_writer [V.sl (Tok.row 0) T_string es47, V.bool b48] false], none⟩))))))) := (LP_eq ..).trans (by kernel_rfl)
theorem eq (m0_0 : List (List V)) (m0_1 : Bool) (a1_0 : Int) (a1_1 : ByteArray) (a1_2 : Int) (a1_3 : List (List V)) : den Sp id [V.ref 0 0, V.agg [V.int .i64 a1_0, V.str a1_1, V.int .i64 a1_2, V.sl .no T_api_Expr a1_3]] [Blk.cells T_decl_writer [V.sl (Tok.row 0) T_string m0_0, V.bool m0_1] false] none =
  (den Sp decl_writer_names.id [V.ref 0 0, V.sl .no T_string [[V.str (ByteArray.mk #[98, 114, 101, 97, 107])]]] [Blk.cells T_decl_writer [V.sl (Tok.row 0) T_string m0_0, V.bool m0_1] false] none).bind (fun r8 => Blk.asCells (List.getD (Res.bl r8) 0 (Blk.cells T_n0 [] true)) T_decl_writer 2 (fun rd9 => V.asSlR (rd9 0) 0 T_string (fun es10 => V.asBool (rd9 1) (fun b11 => Res.onRet r8 (fun v12 => V.asTup v12 0 (fun rd13 => (den Sp decl_writer_side.id [V.ref 0 0, V.int .i64 a1_0] [Blk.cells T_decl_writer [V.sl (Tok.row 0) T_string es10, V.bool b11] false] none).bind (fun r15 => Blk.asCells (List.getD (Res.bl r15) 0 (Blk.cells T_n0 [] true)) T_decl_writer 2 (fun rd16 => V.asSlR (rd16 0) 0 T_string (fun es17 => V.asBool (rd16 1) (fun b18 => Res.onRet r15 (fun v19 => V.asTup v19 0 (fun rd20 => (den Sp decl_writer_names.id [V.ref 0 0, V.sl .no T_string [[V.str a1_1]]] [Blk.cells T_decl_writer [V.sl (Tok.row 0) T_string es17, V.bool b18] false] none).bind (fun r22 => Blk.asCells (List.getD (Res.bl r22) 0 (Blk.cells T_n0 [] true)) T_decl_writer 2 (fun rd23 => V.asSlR (rd23 0) 0 T_string (fun es24 => V.asBool (rd23 1) (fun b25 => Res.onRet r22 (fun v26 => V.asTup v26 0 (fun rd27 => bif b25 then (den Sp num_Text.id [V.int .i64 a1_2] [] none).bind (fun r30 => Res.onRet r30 (fun v31 => V.asStr v31 (fun s32 => if (((List.length es24) + (List.length [[V.str s32]])) <= most) then (L1_1_1_1_1_1_0_1_0 a1_3 (a1_3.length : Int) (0 : Int) (es24 ++ [[V.str s32]]) a1_0 a1_1 a1_2 a1_3) else none))) else (bif (decide (a1_2 < (0 : Int))) then (den Sp num_Text.id [V.int .i64 a1_2] [] none).bind (fun r30 => Res.onRet r30 (fun v31 => V.asStr v31 (fun s32 => if (((List.length es24) + (List.length [[V.str s32]])) <= most) then (L1_1_1_1_1_1_0_1_0 a1_3 (a1_3.length : Int) (0 : Int) (es24 ++ [[V.str s32]]) a1_0 a1_1 a1_2 a1_3) else none))) else (den Sp num_Text.id [V.int .i64 a1_2] [] none).bind (fun r30 => Res.onRet r30 (fun v31 => V.asStr v31 (fun s32 => if (((List.length es24) + (List.length [[V.str s32]])) <= most) then (L1_1_1_1_1_1_0_1_0v1 a1_3 (a1_3.length : Int) (0 : Int) (es24 ++ [[V.str s32]]) (decide ((a1_3.length : Int) > (1 : Int))) a1_0 a1_1 a1_2 a1_3) else none)))))))))))))))))))))) := (den_eq ..).trans (by kernel_rfl)
end decl_writer_stop
namespace decl_Print
noncomputable abbrev e (p : List Nat) := ev Sp (den Sp) id Tryz.f11.ntmps (cAt (bodyOf Tryz.f11) p)
noncomputable abbrev cn (n0 : List Nat) := canon Sp id n0
noncomputable abbrev K : K := kFin Sp (den Sp) Tryz.f11 0
noncomputable def L1_1_0_1_0 (l0 : List (List V)) (i1 i2 : Int) (l3 l4 l5 l6 l7 l8 : List (List V)) (b9 : Bool) : Option Res := LP (e [1, 1, 0, 1, 0, 0]) (cn [1001, 1016]) (kBlk 0 (kSeq (e [1, 1, 1]) (K))) ([(1, (V.ref 1001 0)), (4, (V.ref 1016 0)), (18, (V.sl .no T_api_Pair l0)), (19, (V.int .i64 i1)), (20, (V.int .i64 i2)), (61, V.undef), (62, V.undef), (63, V.undef), (102, V.undef), (103, V.undef), (104, V.undef), (142, V.undef), (143, V.undef), (144, V.undef), (167, V.undef), (168, V.undef), (169, V.undef)], ⟨[(1001, (Blk.cells T_decl_File [V.sl .no T_api_Pair l3, V.sl .no T_api_Pair l4, V.sl .no T_decl_Keep l5, V.sl .no T_decl_Break l6, V.sl .no T_decl_Watch l7] false)), (1016, (Blk.cells T_decl_writer [V.sl (Tok.row 0) T_string l8, V.bool b9] false))], [0], [], [], none⟩)
noncomputable def L1_1_1_0_1_0 (l0 : List (List V)) (i1 i2 : Int) (l3 : List (List V)) (i4 i5 : Int) (l6 l7 l8 l9 l10 l11 : List (List V)) (b12 : Bool) : Option Res := LP (e [1, 1, 1, 0, 1, 0, 0]) (cn [1001, 1016]) (kBlk 2 (kSeq (e [1, 1, 1, 1]) (K))) ([(1, (V.ref 1001 0)), (4, (V.ref 1016 0)), (18, (V.sl .no T_api_Pair l0)), (19, (V.int .i64 i1)), (20, (V.int .i64 i2)), (61, (V.sl .no T_api_Pair l3)), (62, (V.int .i64 i4)), (63, (V.int .i64 i5)), (102, V.undef), (103, V.undef), (104, V.undef), (142, V.undef), (143, V.undef), (144, V.undef), (167, V.undef), (168, V.undef), (169, V.undef)], ⟨[(1001, (Blk.cells T_decl_File [V.sl .no T_api_Pair l6, V.sl .no T_api_Pair l7, V.sl .no T_decl_Keep l8, V.sl .no T_decl_Break l9, V.sl .no T_decl_Watch l10] false)), (1016, (Blk.cells T_decl_writer [V.sl (Tok.row 0) T_string l11, V.bool b12] false))], [0], [], [], none⟩)
noncomputable def L1_1_1_1_0_1_0 (l0 : List (List V)) (i1 i2 : Int) (l3 : List (List V)) (i4 i5 : Int) (l6 : List (List V)) (i7 i8 : Int) (l9 l10 l11 l12 l13 l14 : List (List V)) (b15 : Bool) : Option Res := LP (e [1, 1, 1, 1, 0, 1, 0, 0]) (cn [1001, 1016]) (kBlk 4 (kSeq (e [1, 1, 1, 1, 1]) (K))) ([(1, (V.ref 1001 0)), (4, (V.ref 1016 0)), (18, (V.sl .no T_api_Pair l0)), (19, (V.int .i64 i1)), (20, (V.int .i64 i2)), (61, (V.sl .no T_api_Pair l3)), (62, (V.int .i64 i4)), (63, (V.int .i64 i5)), (102, (V.sl .no T_decl_Keep l6)), (103, (V.int .i64 i7)), (104, (V.int .i64 i8)), (142, V.undef), (143, V.undef), (144, V.undef), (167, V.undef), (168, V.undef), (169, V.undef)], ⟨[(1001, (Blk.cells T_decl_File [V.sl .no T_api_Pair l9, V.sl .no T_api_Pair l10, V.sl .no T_decl_Keep l11, V.sl .no T_decl_Break l12, V.sl .no T_decl_Watch l13] false)), (1016, (Blk.cells T_decl_writer [V.sl (Tok.row 0) T_string l14, V.bool b15] false))], [0], [], [], none⟩)
noncomputable def L1_1_1_1_1_0_1_0 (l0 : List (List V)) (i1 i2 : Int) (l3 : List (List V)) (i4 i5 : Int) (l6 : List (List V)) (i7 i8 : Int) (l9 : List (List V)) (i10 i11 : Int) (l12 l13 l14 l15 l16 l17 : List (List V)) (b18 : Bool) : Option Res := LP (e [1, 1, 1, 1, 1, 0, 1, 0, 0]) (cn [1001, 1016]) (kBlk 6 (kSeq (e [1, 1, 1, 1, 1, 1]) (K))) ([(1, (V.ref 1001 0)), (4, (V.ref 1016 0)), (18, (V.sl .no T_api_Pair l0)), (19, (V.int .i64 i1)), (20, (V.int .i64 i2)), (61, (V.sl .no T_api_Pair l3)), (62, (V.int .i64 i4)), (63, (V.int .i64 i5)), (102, (V.sl .no T_decl_Keep l6)), (103, (V.int .i64 i7)), (104, (V.int .i64 i8)), (142, (V.sl .no T_decl_Break l9)), (143, (V.int .i64 i10)), (144, (V.int .i64 i11)), (167, V.undef), (168, V.undef), (169, V.undef)], ⟨[(1001, (Blk.cells T_decl_File [V.sl .no T_api_Pair l12, V.sl .no T_api_Pair l13, V.sl .no T_decl_Keep l14, V.sl .no T_decl_Break l15, V.sl .no T_decl_Watch l16] false)), (1016, (Blk.cells T_decl_writer [V.sl (Tok.row 0) T_string l17, V.bool b18] false))], [0], [], [], none⟩)
noncomputable def L1_1_1_1_1_1_0_1_0 (l0 : List (List V)) (i1 i2 : Int) (l3 : List (List V)) (i4 i5 : Int) (l6 : List (List V)) (i7 i8 : Int) (l9 : List (List V)) (i10 i11 : Int) (l12 : List (List V)) (i13 i14 : Int) (l15 l16 l17 l18 l19 l20 : List (List V)) (b21 : Bool) : Option Res := LP (e [1, 1, 1, 1, 1, 1, 0, 1, 0, 0]) (cn [1001, 1016]) (kBlk 8 (kSeq (e [1, 1, 1, 1, 1, 1, 1]) (K))) ([(1, (V.ref 1001 0)), (4, (V.ref 1016 0)), (18, (V.sl .no T_api_Pair l0)), (19, (V.int .i64 i1)), (20, (V.int .i64 i2)), (61, (V.sl .no T_api_Pair l3)), (62, (V.int .i64 i4)), (63, (V.int .i64 i5)), (102, (V.sl .no T_decl_Keep l6)), (103, (V.int .i64 i7)), (104, (V.int .i64 i8)), (142, (V.sl .no T_decl_Break l9)), (143, (V.int .i64 i10)), (144, (V.int .i64 i11)), (167, (V.sl .no T_decl_Watch l12)), (168, (V.int .i64 i13)), (169, (V.int .i64 i14))], ⟨[(1001, (Blk.cells T_decl_File [V.sl .no T_api_Pair l15, V.sl .no T_api_Pair l16, V.sl .no T_decl_Keep l17, V.sl .no T_decl_Break l18, V.sl .no T_decl_Watch l19] false)), (1016, (Blk.cells T_decl_writer [V.sl (Tok.row 0) T_string l20, V.bool b21] false))], [0], [], [], none⟩)
theorem L1_1_0_1_0_eq (l0 : List (List V)) (i1 i2 : Int) (l3 l4 l5 l6 l7 l8 : List (List V)) (b9 : Bool) : L1_1_0_1_0 l0 i1 i2 l3 l4 l5 l6 l7 l8 b9 =
  (bif (decide (i2 < i1)) then (if (((0 : Int) <= i2) ∧ (i2 < (l0.length : Int))) then (V.asStr (List.getD (List.getD l0 (Int.toNat i2) []) 0 V.undef) (fun s20 => V.asStr (List.getD (List.getD l0 (Int.toNat i2) []) 1 V.undef) (fun s21 => V.asStr (List.getD (List.getD l0 (Int.toNat i2) []) 2 V.undef) (fun s22 => V.asStr (List.getD (List.getD l0 (Int.toNat i2) []) 3 V.undef) (fun s23 => bif b9 then (den Sp decl_writer_names.id [V.ref 0 0, V.sl .no T_string [[V.str (ByteArray.mk #[112, 97, 105, 114])], [V.str s20], [V.str s21]]] [Blk.cells T_decl_writer [V.sl (Tok.row 0) T_string l8, V.bool true] false] none).bind (fun r26 => Blk.asCells (List.getD (Res.bl r26) 0 (Blk.cells T_n0 [] true)) T_decl_writer 2 (fun rd27 => V.asSlR (rd27 0) 0 T_string (fun es28 => V.asBool (rd27 1) (fun b29 => Res.onRet r26 (fun v30 => V.asTup v30 0 (fun rd31 => (den Sp decl_writer_end.id [V.ref 0 0] [Blk.cells T_decl_writer [V.sl (Tok.row 0) T_string es28, V.bool b29] false] none).bind (fun r33 => Blk.asCells (List.getD (Res.bl r33) 0 (Blk.cells T_n0 [] true)) T_decl_writer 2 (fun rd34 => V.asSlR (rd34 0) 0 T_string (fun es35 => V.asBool (rd34 1) (fun b36 => Res.onRet r33 (fun v37 => V.asTup v37 0 (fun rd38 => L1_1_0_1_0 l0 i1 (IntKind.wrap .i64 (i2 + (1 : Int))) l3 l4 l5 l6 l7 es35 b36)))))))))))) else (bif (!(decide (s22 = (ByteArray.mk #[])))) then (den Sp decl_writer_names.id [V.ref 0 0, V.sl .no T_string [[V.str (ByteArray.mk #[112, 97, 105, 114])], [V.str s20], [V.str s21]]] [Blk.cells T_decl_writer [V.sl (Tok.row 0) T_string l8, V.bool true] false] none).bind (fun r26 => Blk.asCells (List.getD (Res.bl r26) 0 (Blk.cells T_n0 [] true)) T_decl_writer 2 (fun rd27 => V.asSlR (rd27 0) 0 T_string (fun es28 => V.asBool (rd27 1) (fun b29 => Res.onRet r26 (fun v30 => V.asTup v30 0 (fun rd31 => (den Sp decl_writer_end.id [V.ref 0 0] [Blk.cells T_decl_writer [V.sl (Tok.row 0) T_string es28, V.bool b29] false] none).bind (fun r33 => Blk.asCells (List.getD (Res.bl r33) 0 (Blk.cells T_n0 [] true)) T_decl_writer 2 (fun rd34 => V.asSlR (rd34 0) 0 T_string (fun es35 => V.asBool (rd34 1) (fun b36 => Res.onRet r33 (fun v37 => V.asTup v37 0 (fun rd38 => L1_1_0_1_0 l0 i1 (IntKind.wrap .i64 (i2 + (1 : Int))) l3 l4 l5 l6 l7 es35 b36)))))))))))) else (bif (!(decide (s23 = (ByteArray.mk #[])))) then (den Sp decl_writer_names.id [V.ref 0 0, V.sl .no T_string [[V.str (ByteArray.mk #[112, 97, 105, 114])], [V.str s20], [V.str s21]]] [Blk.cells T_decl_writer [V.sl (Tok.row 0) T_string l8, V.bool true] false] none).bind (fun r26 => Blk.asCells (List.getD (Res.bl r26) 0 (Blk.cells T_n0 [] true)) T_decl_writer 2 (fun rd27 => V.asSlR (rd27 0) 0 T_string (fun es28 => V.asBool (rd27 1) (fun b29 => Res.onRet r26 (fun v30 => V.asTup v30 0 (fun rd31 => (den Sp decl_writer_end.id [V.ref 0 0] [Blk.cells T_decl_writer [V.sl (Tok.row 0) T_string es28, V.bool b29] false] none).bind (fun r33 => Blk.asCells (List.getD (Res.bl r33) 0 (Blk.cells T_n0 [] true)) T_decl_writer 2 (fun rd34 => V.asSlR (rd34 0) 0 T_string (fun es35 => V.asBool (rd34 1) (fun b36 => Res.onRet r33 (fun v37 => V.asTup v37 0 (fun rd38 => L1_1_0_1_0 l0 i1 (IntKind.wrap .i64 (i2 + (1 : Int))) l3 l4 l5 l6 l7 es35 b36)))))))))))) else (den Sp decl_isName.id [V.sl .no T_string [[V.str s20], [V.str s21]]] [] none).bind (fun r25 => Res.onRet r25 (fun v26 => V.asBool v26 (fun b27 => (den Sp decl_writer_names.id [V.ref 0 0, V.sl .no T_string [[V.str (ByteArray.mk #[112, 97, 105, 114])], [V.str s20], [V.str s21]]] [Blk.cells T_decl_writer [V.sl (Tok.row 0) T_string l8, V.bool (!b27)] false] none).bind (fun r29 => Blk.asCells (List.getD (Res.bl r29) 0 (Blk.cells T_n0 [] true)) T_decl_writer 2 (fun rd30 => V.asSlR (rd30 0) 0 T_string (fun es31 => V.asBool (rd30 1) (fun b32 => Res.onRet r29 (fun v33 => V.asTup v33 0 (fun rd34 => (den Sp decl_writer_end.id [V.ref 0 0] [Blk.cells T_decl_writer [V.sl (Tok.row 0) T_string es31, V.bool b32] false] none).bind (fun r36 => Blk.asCells (List.getD (Res.bl r36) 0 (Blk.cells T_n0 [] true)) T_decl_writer 2 (fun rd37 => V.asSlR (rd37 0) 0 T_string (fun es38 => V.asBool (rd37 1) (fun b39 => Res.onRet r36 (fun v40 => V.asTup v40 0 (fun rd41 => L1_1_0_1_0 l0 i1 (IntKind.wrap .i64 (i2 + (1 : Int))) l3 l4 l5 l6 l7 es38 b39)))))))))))))))))))))) else none) else (L1_1_1_0_1_0 l0 i1 i2 l4 (l4.length : Int) (0 : Int) l3 l4 l5 l6 l7 l8 b9)) := (LP_eq ..).trans (by kernel_rfl)
theorem L1_1_1_0_1_0_eq (l0 : List (List V)) (i1 i2 : Int) (l3 : List (List V)) (i4 i5 : Int) (l6 l7 l8 l9 l10 l11 : List (List V)) (b12 : Bool) : L1_1_1_0_1_0 l0 i1 i2 l3 i4 i5 l6 l7 l8 l9 l10 l11 b12 =
  (bif (decide (i5 < i4)) then (if (((0 : Int) <= i5) ∧ (i5 < (l3.length : Int))) then (V.asStr (List.getD (List.getD l3 (Int.toNat i5) []) 0 V.undef) (fun s35 => V.asStr (List.getD (List.getD l3 (Int.toNat i5) []) 1 V.undef) (fun s36 => V.asStr (List.getD (List.getD l3 (Int.toNat i5) []) 2 V.undef) (fun s37 => V.asStr (List.getD (List.getD l3 (Int.toNat i5) []) 3 V.undef) (fun s38 => bif b12 then (den Sp decl_writer_names.id [V.ref 0 0, V.sl .no T_string [[V.str (ByteArray.mk #[115, 97, 109, 101])], [V.str s35], [V.str (ByteArray.mk #[40])], [V.str s37], [V.str (ByteArray.mk #[41])], [V.str s36], [V.str (ByteArray.mk #[40])], [V.str s38], [V.str (ByteArray.mk #[41])]]] [Blk.cells T_decl_writer [V.sl (Tok.row 0) T_string l11, V.bool true] false] none).bind (fun r41 => Blk.asCells (List.getD (Res.bl r41) 0 (Blk.cells T_n0 [] true)) T_decl_writer 2 (fun rd42 => V.asSlR (rd42 0) 0 T_string (fun es43 => V.asBool (rd42 1) (fun b44 => Res.onRet r41 (fun v45 => V.asTup v45 0 (fun rd46 => (den Sp decl_writer_end.id [V.ref 0 0] [Blk.cells T_decl_writer [V.sl (Tok.row 0) T_string es43, V.bool b44] false] none).bind (fun r48 => Blk.asCells (List.getD (Res.bl r48) 0 (Blk.cells T_n0 [] true)) T_decl_writer 2 (fun rd49 => V.asSlR (rd49 0) 0 T_string (fun es50 => V.asBool (rd49 1) (fun b51 => Res.onRet r48 (fun v52 => V.asTup v52 0 (fun rd53 => L1_1_1_0_1_0 l0 i1 i2 l3 i4 (IntKind.wrap .i64 (i5 + (1 : Int))) l6 l7 l8 l9 l10 es50 b51)))))))))))) else (den Sp decl_isName.id [V.sl .no T_string [[V.str s35], [V.str s37], [V.str s36], [V.str s38]]] [] none).bind (fun r40 => Res.onRet r40 (fun v41 => V.asBool v41 (fun b42 => (den Sp decl_writer_names.id [V.ref 0 0, V.sl .no T_string [[V.str (ByteArray.mk #[115, 97, 109, 101])], [V.str s35], [V.str (ByteArray.mk #[40])], [V.str s37], [V.str (ByteArray.mk #[41])], [V.str s36], [V.str (ByteArray.mk #[40])], [V.str s38], [V.str (ByteArray.mk #[41])]]] [Blk.cells T_decl_writer [V.sl (Tok.row 0) T_string l11, V.bool (!b42)] false] none).bind (fun r44 => Blk.asCells (List.getD (Res.bl r44) 0 (Blk.cells T_n0 [] true)) T_decl_writer 2 (fun rd45 => V.asSlR (rd45 0) 0 T_string (fun es46 => V.asBool (rd45 1) (fun b47 => Res.onRet r44 (fun v48 => V.asTup v48 0 (fun rd49 => (den Sp decl_writer_end.id [V.ref 0 0] [Blk.cells T_decl_writer [V.sl (Tok.row 0) T_string es46, V.bool b47] false] none).bind (fun r51 => Blk.asCells (List.getD (Res.bl r51) 0 (Blk.cells T_n0 [] true)) T_decl_writer 2 (fun rd52 => V.asSlR (rd52 0) 0 T_string (fun es53 => V.asBool (rd52 1) (fun b54 => Res.onRet r51 (fun v55 => V.asTup v55 0 (fun rd56 => L1_1_1_0_1_0 l0 i1 i2 l3 i4 (IntKind.wrap .i64 (i5 + (1 : Int))) l6 l7 l8 l9 l10 es53 b54)))))))))))))))))))) else none) else (L1_1_1_1_0_1_0 l0 i1 i2 l3 i4 i5 l8 (l8.length : Int) (0 : Int) l6 l7 l8 l9 l10 l11 b12)) := (LP_eq ..).trans (by kernel_rfl)
theorem L1_1_1_1_0_1_0_eq (l0 : List (List V)) (i1 i2 : Int) (l3 : List (List V)) (i4 i5 : Int) (l6 : List (List V)) (i7 i8 : Int) (l9 l10 l11 l12 l13 l14 : List (List V)) (b15 : Bool) : L1_1_1_1_0_1_0 l0 i1 i2 l3 i4 i5 l6 i7 i8 l9 l10 l11 l12 l13 l14 b15 =
  (bif (decide (i8 < i7)) then (if (((0 : Int) <= i8) ∧ (i8 < (l6.length : Int))) then (V.asInt (List.getD (List.getD l6 (Int.toNat i8) []) 0 V.undef) .i64 (fun n53 => V.asStr (List.getD (List.getD l6 (Int.toNat i8) []) 1 V.undef) (fun s54 => V.asStr (List.getD (List.getD l6 (Int.toNat i8) []) 2 V.undef) (fun s55 => bif b15 then (den Sp decl_writer_names.id [V.ref 0 0, V.sl .no T_string [[V.str (ByteArray.mk #[107, 101, 101, 112])]]] [Blk.cells T_decl_writer [V.sl (Tok.row 0) T_string l14, V.bool true] false] none).bind (fun r58 => Blk.asCells (List.getD (Res.bl r58) 0 (Blk.cells T_n0 [] true)) T_decl_writer 2 (fun rd59 => V.asSlR (rd59 0) 0 T_string (fun es60 => V.asBool (rd59 1) (fun b61 => Res.onRet r58 (fun v62 => V.asTup v62 0 (fun rd63 => (den Sp decl_writer_side.id [V.ref 0 0, V.int .i64 n53] [Blk.cells T_decl_writer [V.sl (Tok.row 0) T_string es60, V.bool b61] false] none).bind (fun r65 => Blk.asCells (List.getD (Res.bl r65) 0 (Blk.cells T_n0 [] true)) T_decl_writer 2 (fun rd66 => V.asSlR (rd66 0) 0 T_string (fun es67 => V.asBool (rd66 1) (fun b68 => Res.onRet r65 (fun v69 => V.asTup v69 0 (fun rd70 => (den Sp decl_writer_names.id [V.ref 0 0, V.sl .no T_string [[V.str s54], [V.str s55]]] [Blk.cells T_decl_writer [V.sl (Tok.row 0) T_string es67, V.bool b68] false] none).bind (fun r72 => Blk.asCells (List.getD (Res.bl r72) 0 (Blk.cells T_n0 [] true)) T_decl_writer 2 (fun rd73 => V.asSlR (rd73 0) 0 T_string (fun es74 => V.asBool (rd73 1) (fun b75 => Res.onRet r72 (fun v76 => V.asTup v76 0 (fun rd77 => (den Sp decl_writer_end.id [V.ref 0 0] [Blk.cells T_decl_writer [V.sl (Tok.row 0) T_string es74, V.bool b75] false] none).bind (fun r79 => Blk.asCells (List.getD (Res.bl r79) 0 (Blk.cells T_n0 [] true)) T_decl_writer 2 (fun rd80 => V.asSlR (rd80 0) 0 T_string (fun es81 => V.asBool (rd80 1) (fun b82 => Res.onRet r79 (fun v83 => V.asTup v83 0 (fun rd84 => L1_1_1_1_0_1_0 l0 i1 i2 l3 i4 i5 l6 i7 (IntKind.wrap .i64 (i8 + (1 : Int))) l9 l10 l11 l12 l13 es81 b82)))))))))))))))))))))))) else (den Sp decl_isName.id [V.sl .no T_string [[V.str s54], [V.str s55]]] [] none).bind (fun r57 => Res.onRet r57 (fun v58 => V.asBool v58 (fun b59 => (den Sp decl_writer_names.id [V.ref 0 0, V.sl .no T_string [[V.str (ByteArray.mk #[107, 101, 101, 112])]]] [Blk.cells T_decl_writer [V.sl (Tok.row 0) T_string l14, V.bool (!b59)] false] none).bind (fun r61 => Blk.asCells (List.getD (Res.bl r61) 0 (Blk.cells T_n0 [] true)) T_decl_writer 2 (fun rd62 => V.asSlR (rd62 0) 0 T_string (fun es63 => V.asBool (rd62 1) (fun b64 => Res.onRet r61 (fun v65 => V.asTup v65 0 (fun rd66 => (den Sp decl_writer_side.id [V.ref 0 0, V.int .i64 n53] [Blk.cells T_decl_writer [V.sl (Tok.row 0) T_string es63, V.bool b64] false] none).bind (fun r68 => Blk.asCells (List.getD (Res.bl r68) 0 (Blk.cells T_n0 [] true)) T_decl_writer 2 (fun rd69 => V.asSlR (rd69 0) 0 T_string (fun es70 => V.asBool (rd69 1) (fun b71 => Res.onRet r68 (fun v72 => V.asTup v72 0 (fun rd73 => (den Sp decl_writer_names.id [V.ref 0 0, V.sl .no T_string [[V.str s54], [V.str s55]]] [Blk.cells T_decl_writer [V.sl (Tok.row 0) T_string es70, V.bool b71] false] none).bind (fun r75 => Blk.asCells (List.getD (Res.bl r75) 0 (Blk.cells T_n0 [] true)) T_decl_writer 2 (fun rd76 => V.asSlR (rd76 0) 0 T_string (fun es77 => V.asBool (rd76 1) (fun b78 => Res.onRet r75 (fun v79 => V.asTup v79 0 (fun rd80 => (den Sp decl_writer_end.id [V.ref 0 0] [Blk.cells T_decl_writer [V.sl (Tok.row 0) T_string es77, V.bool b78] false] none).bind (fun r82 => Blk.asCells (List.getD (Res.bl r82) 0 (Blk.cells T_n0 [] true)) T_decl_writer 2 (fun rd83 => V.asSlR (rd83 0) 0 T_string (fun es84 => V.asBool (rd83 1) (fun b85 => Res.onRet r82 (fun v86 => V.asTup v86 0 (fun rd87 => L1_1_1_1_0_1_0 l0 i1 i2 l3 i4 i5 l6 i7 (IntKind.wrap .i64 (i8 + (1 : Int))) l9 l10 l11 l12 l13 es84 b85))))))))))))))))))))))))))))))) else none) else (L1_1_1_1_1_0_1_0 l0 i1 i2 l3 i4 i5 l6 i7 i8 l12 (l12.length : Int) (0 : Int) l9 l10 l11 l12 l13 l14 b15)) := (LP_eq ..).trans (by kernel_rfl)
theorem L1_1_1_1_1_0_1_0_eq (l0 : List (List V)) (i1 i2 : Int) (l3 : List (List V)) (i4 i5 : Int) (l6 : List (List V)) (i7 i8 : Int) (l9 : List (List V)) (i10 i11 : Int) (l12 l13 l14 l15 l16 l17 : List (List V)) (b18 : Bool) : L1_1_1_1_1_0_1_0 l0 i1 i2 l3 i4 i5 l6 i7 i8 l9 i10 i11 l12 l13 l14 l15 l16 l17 b18 =
  (bif (decide (i11 < i10)) then (if (((0 : Int) <= i11) ∧ (i11 < (l9.length : Int))) then (V.asInt (List.getD (List.getD l9 (Int.toNat i11) []) 0 V.undef) .i64 (fun n74 => V.asStr (List.getD (List.getD l9 (Int.toNat i11) []) 1 V.undef) (fun s75 => V.asInt (List.getD (List.getD l9 (Int.toNat i11) []) 2 V.undef) .i64 (fun n76 => V.asSl (List.getD (List.getD l9 (Int.toNat i11) []) 3 V.undef) T_api_Expr (fun es77 => bif b18 then (den Sp decl_writer_stop.id [V.ref 0 0, V.agg [V.int .i64 n74, V.str s75, V.int .i64 n76, V.sl .no T_api_Expr es77]] [Blk.cells T_decl_writer [V.sl (Tok.row 0) T_string l17, V.bool true] false] none).bind (fun r80 => Blk.asCells (List.getD (Res.bl r80) 0 (Blk.cells T_n0 [] true)) T_decl_writer 2 (fun rd81 => V.asSlR (rd81 0) 0 T_string (fun es82 => V.asBool (rd81 1) (fun b83 => Res.onRet r80 (fun v84 => V.asTup v84 0 (fun rd85 => L1_1_1_1_1_0_1_0 l0 i1 i2 l3 i4 i5 l6 i7 i8 l9 i10 (IntKind.wrap .i64 (i11 + (1 : Int))) l12 l13 l14 l15 l16 es82 b83)))))) else (den Sp decl_isName.id [V.sl .no T_string [[V.str s75]]] [] none).bind (fun r79 => Res.onRet r79 (fun v80 => V.asBool v80 (fun b81 => (den Sp decl_writer_stop.id [V.ref 0 0, V.agg [V.int .i64 n74, V.str s75, V.int .i64 n76, V.sl .no T_api_Expr es77]] [Blk.cells T_decl_writer [V.sl (Tok.row 0) T_string l17, V.bool (!b81)] false] none).bind (fun r83 => Blk.asCells (List.getD (Res.bl r83) 0 (Blk.cells T_n0 [] true)) T_decl_writer 2 (fun rd84 => V.asSlR (rd84 0) 0 T_string (fun es85 => V.asBool (rd84 1) (fun b86 => Res.onRet r83 (fun v87 => V.asTup v87 0 (fun rd88 => L1_1_1_1_1_0_1_0 l0 i1 i2 l3 i4 i5 l6 i7 i8 l9 i10 (IntKind.wrap .i64 (i11 + (1 : Int))) l12 l13 l14 l15 l16 es85 b86)))))))))))))) else none) else (L1_1_1_1_1_1_0_1_0 l0 i1 i2 l3 i4 i5 l6 i7 i8 l9 i10 i11 l16 (l16.length : Int) (0 : Int) l12 l13 l14 l15 l16 l17 b18)) := (LP_eq ..).trans (by kernel_rfl)
theorem L1_1_1_1_1_1_0_1_0_eq (l0 : List (List V)) (i1 i2 : Int) (l3 : List (List V)) (i4 i5 : Int) (l6 : List (List V)) (i7 i8 : Int) (l9 : List (List V)) (i10 i11 : Int) (l12 : List (List V)) (i13 i14 : Int) (l15 l16 l17 l18 l19 l20 : List (List V)) (b21 : Bool) : L1_1_1_1_1_1_0_1_0 l0 i1 i2 l3 i4 i5 l6 i7 i8 l9 i10 i11 l12 i13 i14 l15 l16 l17 l18 l19 l20 b21 =
  (bif (decide (i14 < i13)) then (if (((0 : Int) <= i14) ∧ (i14 < (l12.length : Int))) then (V.asInt (List.getD (List.getD l12 (Int.toNat i14) []) 0 V.undef) .i64 (fun n98 => V.asStr (List.getD (List.getD l12 (Int.toNat i14) []) 1 V.undef) (fun s99 => V.asStr (List.getD (List.getD l12 (Int.toNat i14) []) 2 V.undef) (fun s100 => bif b21 then (den Sp decl_writer_names.id [V.ref 0 0, V.sl .no T_string [[V.str (ByteArray.mk #[119, 97, 116, 99, 104])]]] [Blk.cells T_decl_writer [V.sl (Tok.row 0) T_string l20, V.bool true] false] none).bind (fun r103 => Blk.asCells (List.getD (Res.bl r103) 0 (Blk.cells T_n0 [] true)) T_decl_writer 2 (fun rd104 => V.asSlR (rd104 0) 0 T_string (fun es105 => V.asBool (rd104 1) (fun b106 => Res.onRet r103 (fun v107 => V.asTup v107 0 (fun rd108 => (den Sp decl_writer_side.id [V.ref 0 0, V.int .i64 n98] [Blk.cells T_decl_writer [V.sl (Tok.row 0) T_string es105, V.bool b106] false] none).bind (fun r110 => Blk.asCells (List.getD (Res.bl r110) 0 (Blk.cells T_n0 [] true)) T_decl_writer 2 (fun rd111 => V.asSlR (rd111 0) 0 T_string (fun es112 => V.asBool (rd111 1) (fun b113 => Res.onRet r110 (fun v114 => V.asTup v114 0 (fun rd115 => (den Sp decl_writer_names.id [V.ref 0 0, V.sl .no T_string [[V.str s99], [V.str s100]]] [Blk.cells T_decl_writer [V.sl (Tok.row 0) T_string es112, V.bool b113] false] none).bind (fun r117 => Blk.asCells (List.getD (Res.bl r117) 0 (Blk.cells T_n0 [] true)) T_decl_writer 2 (fun rd118 => V.asSlR (rd118 0) 0 T_string (fun es119 => V.asBool (rd118 1) (fun b120 => Res.onRet r117 (fun v121 => V.asTup v121 0 (fun rd122 => (den Sp decl_writer_end.id [V.ref 0 0] [Blk.cells T_decl_writer [V.sl (Tok.row 0) T_string es119, V.bool b120] false] none).bind (fun r124 => Blk.asCells (List.getD (Res.bl r124) 0 (Blk.cells T_n0 [] true)) T_decl_writer 2 (fun rd125 => V.asSlR (rd125 0) 0 T_string (fun es126 => V.asBool (rd125 1) (fun b127 => Res.onRet r124 (fun v128 => V.asTup v128 0 (fun rd129 => L1_1_1_1_1_1_0_1_0 l0 i1 i2 l3 i4 i5 l6 i7 i8 l9 i10 i11 l12 i13 (IntKind.wrap .i64 (i14 + (1 : Int))) l15 l16 l17 l18 l19 es126 b127)))))))))))))))))))))))) else (den Sp decl_isName.id [V.sl .no T_string [[V.str s99], [V.str s100]]] [] none).bind (fun r102 => Res.onRet r102 (fun v103 => V.asBool v103 (fun b104 => (den Sp decl_writer_names.id [V.ref 0 0, V.sl .no T_string [[V.str (ByteArray.mk #[119, 97, 116, 99, 104])]]] [Blk.cells T_decl_writer [V.sl (Tok.row 0) T_string l20, V.bool (!b104)] false] none).bind (fun r106 => Blk.asCells (List.getD (Res.bl r106) 0 (Blk.cells T_n0 [] true)) T_decl_writer 2 (fun rd107 => V.asSlR (rd107 0) 0 T_string (fun es108 => V.asBool (rd107 1) (fun b109 => Res.onRet r106 (fun v110 => V.asTup v110 0 (fun rd111 => (den Sp decl_writer_side.id [V.ref 0 0, V.int .i64 n98] [Blk.cells T_decl_writer [V.sl (Tok.row 0) T_string es108, V.bool b109] false] none).bind (fun r113 => Blk.asCells (List.getD (Res.bl r113) 0 (Blk.cells T_n0 [] true)) T_decl_writer 2 (fun rd114 => V.asSlR (rd114 0) 0 T_string (fun es115 => V.asBool (rd114 1) (fun b116 => Res.onRet r113 (fun v117 => V.asTup v117 0 (fun rd118 => (den Sp decl_writer_names.id [V.ref 0 0, V.sl .no T_string [[V.str s99], [V.str s100]]] [Blk.cells T_decl_writer [V.sl (Tok.row 0) T_string es115, V.bool b116] false] none).bind (fun r120 => Blk.asCells (List.getD (Res.bl r120) 0 (Blk.cells T_n0 [] true)) T_decl_writer 2 (fun rd121 => V.asSlR (rd121 0) 0 T_string (fun es122 => V.asBool (rd121 1) (fun b123 => Res.onRet r120 (fun v124 => V.asTup v124 0 (fun rd125 => (den Sp decl_writer_end.id [V.ref 0 0] [Blk.cells T_decl_writer [V.sl (Tok.row 0) T_string es122, V.bool b123] false] none).bind (fun r127 => Blk.asCells (List.getD (Res.bl r127) 0 (Blk.cells T_n0 [] true)) T_decl_writer 2 (fun rd128 => V.asSlR (rd128 0) 0 T_string (fun es129 => V.asBool (rd128 1) (fun b130 => Res.onRet r127 (fun v131 => V.asTup v131 0 (fun rd132 => L1_1_1_1_1_1_0_1_0 l0 i1 i2 l3 i4 i5 l6 i7 i8 l9 i10 i11 l12 i13 (IntKind.wrap .i64 (i14 + (1 : Int))) l15 l16 l17 l18 l19 es129 b130))))))))))))))))))))))))))))))) else none) else (bif b21 then (some ⟨Out.ret (V.tup [V.str (ByteArray.mk #[]), V.int .i64 (32 : Int)]), [], none⟩) else (bif (decide ((if ((l17.length : Int) > (if ((l16.length : Int) > (l15.length : Int)) then (l16.length : Int) else (l15.length : Int))) then (l17.length : Int) else (if ((l16.length : Int) > (l15.length : Int)) then (l16.length : Int) else (l15.length : Int))) > (40 : Int))) then (some ⟨Out.ret (V.tup [V.str (ByteArray.mk #[]), V.int .i64 (2 : Int)]), [], none⟩) else (bif (decide ((if ((l19.length : Int) > (l18.length : Int)) then (l19.length : Int) else (l18.length : Int)) > (40 : Int))) then (some ⟨Out.ret (V.tup [V.str (ByteArray.mk #[]), V.int .i64 (2 : Int)]), [], none⟩) else (den Sp 34 [V.sl .no T_string l20, V.str (ByteArray.mk #[32])] [] none).bind (fun r100 => Res.onRet r100 (fun v101 => V.asStr v101 (fun s102 => some ⟨Out.ret (V.tup [V.str s102, V.int .i64 (0 : Int)]), [], none⟩))))))) := (LP_eq ..).trans (by kernel_rfl)
theorem eq (a0_0 a0_1 a0_2 a0_3 a0_4 : List (List V)) : den Sp id [V.agg [V.sl .no T_api_Pair a0_0, V.sl .no T_api_Pair a0_1, V.sl .no T_decl_Keep a0_2, V.sl .no T_decl_Break a0_3, V.sl .no T_decl_Watch a0_4]] [] none =
  (L1_1_0_1_0 a0_0 (a0_0.length : Int) (0 : Int) a0_0 a0_1 a0_2 a0_3 a0_4 [] false) := (den_eq ..).trans (by kernel_rfl)
end decl_Print
end Go.Proofs.YtmhnmelaodhemaaGreatDoor
namespace Go.Proofs.YtmhnmelaodhemaaGreatDoor
open Go Go.Proofs.Ab Go.Proofs.Px
def wD (ws : List (List UInt8)) (b : Bool) : Blk := .cells T_decl_writer [.sl (.row 0) T_string (sv ws), .bool b] false
theorem nb_drop {l : List (List UInt8)} {i : Nat} (h : i < l.length) : nb (l.drop i) = ((!isN l[i] && !decide (l[i] = [40]) && !decide (l[i] = [41])) || nb (l.drop (i + 1))) := by
 unfold nb; rw [List.drop_eq_getElem_cons h, List.any_cons]
theorem isName_is (l : List (List UInt8)) (hl : l.length <= 1000) (hs : ∀ s ∈ l, s.length <= 140737488351232) : den Sp decl_isName.id [.sl .no T_string (sv l)] [] none = some ⟨.ret (.bool (l.all isN)), [], none⟩ := by
 have key : ∀ i : Nat, i <= l.length -> decl_isName.L1_0_1_0 (sv l) (l.length : Int) (i : Int) = some ⟨.ret (.bool ((l.drop i).all isN)), [], none⟩ := by
  refine down ?_ fun i hi ih => ?_
  ·rw [decl_isName.L1_0_1_0_eq]; simp
  ·have hn := lex_IsName_is (B l[i]) (by rw [B_size]; have := hs _ (List.getElem_mem hi); omega)
   rw [decl_isName.L1_0_1_0_eq, List.drop_eq_getElem_cons hi, List.all_cons, sv_len, decide_eq_true (show (i : Int) < (l.length : Int) by omega), cond_true, if_pos (in_row hi), Int.toNat_natCast, sv_at _ _ hi, asStr_str, hn, wrap_nat (by omega), ih]
   unfold isN
   cases isName (B l[i]) <;> simp
 have := key 0 (Nat.zero_le _)
 rw [decl_isName.eq, sv_len]
 simpa using this
theorem names_is (l : List (List UInt8)) (hl : l.length <= 1000) (hs : ∀ s ∈ l, s.length <= 140737488351232) (ws : List (List UInt8)) (b : Bool) (hw : ws.length <= 1000000000) :
  den Sp decl_writer_names.id [.ref 0 0, .sl .no T_string (sv l)] [wD ws b] none = some ⟨.ret (.tup []), [wD (ws ++ l) (b || nb l)], none⟩ := by
 have key : ∀ i : Nat, i <= l.length -> ∀ b : Bool, decl_writer_names.L0_1_0 (sv l) (sv l) (l.length : Int) (i : Int) (sv ws) b = some ⟨.ret (.tup []), [wD (ws ++ l) (b || nb (l.drop i))], none⟩ := by
  refine down (fun b => ?_) fun i hi ih b => ?_
  ·rw [decl_writer_names.L0_1_0_eq]
   unfold wD
   simp (disch := omega) [most_if, nb]
  ·have hn := lex_IsName_is (B l[i]) (by rw [B_size]; have := hs _ (List.getElem_mem hi); omega)
   rw [decl_writer_names.L0_1_0_eq, nb_drop hi, sv_len, decide_eq_true (show (i : Int) < (l.length : Int) by omega), cond_true, if_pos (in_row hi), Int.toNat_natCast, sv_at _ _ hi, asStr_str, hn, wrap_nat (by omega)]
   simp only [ih]
   unfold isN
   cases b <;> cases isName (B l[i]) <;> by_cases c1 : l[i] = [40] <;> by_cases c2 : l[i] = [41] <;> simp [c1, c2]
 have := key 0 (Nat.zero_le _) b
 unfold wD at *
 rw [decl_writer_names.eq, sv_len]
 simpa using this
theorem end_is (ws : List (List UInt8)) (b : Bool) (hw : ws.length <= 1000000000) : den Sp decl_writer_end.id [.ref 0 0] [wD ws b] none = some ⟨.ret (.tup []), [wD (ws ++ [[59]]) b], none⟩ := by
 unfold wD
 rw [decl_writer_end.eq]
 simp (disch := omega) [most_if, sv_one]
theorem wside_is (ws : List (List UInt8)) (b : Bool) (n : Int) (hw : ws.length <= 1000000000) : den Sp decl_writer_side.id [.ref 0 0, .int .i64 n] [wD ws b] none = some ⟨.ret (.tup []), [wD (ws ++ [sideT n]) (b || !sideK n)], none⟩ := by
 have e1 := fun b => names_is [[114, 105, 103, 104, 116]] (by decide) (by decide) ws b hw
 have e2 := fun b => names_is [[108, 101, 102, 116]] (by decide) (by decide) ws b hw
 have n1 : nb [[114, 105, 103, 104, 116]] = false := by decide
 have n2 : nb [[108, 101, 102, 116]] = false := by decide
 simp only [n1, n2, Bool.or_false] at e1 e2
 simp only [<- sv_one] at e1 e2
 unfold wD at *
 rw [decl_writer_side.eq]
 unfold sideT sideK
 by_cases c1 : n = 1
 ·subst c1; cases b <;> simp [e1]
 ·by_cases c0 : n = 0
  ·subst c0; cases b <;> simp [e2]
  ·cases b <;> simp [c1, c0, e2]
theorem okWhen_drop {l : List Ex} {i : Nat} (h : i < l.length) : okWhen (l.drop i) = (decide ((prX l[i]).2 = 0) && okWhen (l.drop (i + 1))) := by
 rw [List.drop_eq_getElem_cons h, okWhen]
theorem whenW_drop {l : List Ex} {i : Nat} (h : i < l.length) : whenW (l.drop i) = [119, 104, 101, 110] :: (prX l[i]).1 :: whenW (l.drop (i + 1)) := by
 rw [List.drop_eq_getElem_cons h, whenW]
theorem stop_is (x : Bk) (ho : BkOk x) (hs : x.whn.length + Ex.sizes x.whn <= 1000) (ws : List (List UInt8)) (b : Bool) (hw : ws.length <= 100000000) :
  den Sp decl_writer_stop.id [.ref 0 0, .agg x.v] [wD ws b] none = some ⟨.ret (.tup []), [wD (ws ++ breakW x) (b || nb [x.prc] || !sideK x.side || decide (x.mark < 0) || decide (1 < x.whn.length) || !okWhen x.whn)], none⟩ := by
 have hx : ∀ i (hi : i < x.whn.length), den Sp syntax_PrintExpr.id [.agg x.whn[i].v] [] none = some ⟨.ret (.tup [.str (B (prX x.whn[i]).1), .int .i64 (prX x.whn[i]).2]), [], none⟩ := fun i hi => by
  have := Ex.size_mem (List.getElem_mem hi)
  exact syntax_PrintExpr_is _ (ho.whn.2 _ (List.getElem_mem hi)) (by omega)
 have bad : ∀ i : Nat, i <= x.whn.length -> ∀ ws : List (List UInt8), ws.length + 2 * (x.whn.length - i) <= 1000000000 -> decl_writer_stop.L1_1_1_1_1_1_0_1_0 (x.whn.map Ex.v) (x.whn.length : Int) (i : Int) (sv ws) x.side (B x.prc) x.mark (x.whn.map Ex.v) = some ⟨.ret (.tup []), [wD (ws ++ (whenW (x.whn.drop i) ++ [[59]])) true], none⟩ := by
  refine down (fun ws hw => ?_) fun i hi ih ws hw => ?_
  ·have e := end_is ws true (by omega)
   unfold wD at *
   rw [decl_writer_stop.L1_1_1_1_1_1_0_1_0_eq]
   simp [e, whenW]
  ·have e := ih (ws ++ [[119, 104, 101, 110], (prX x.whn[i]).1]) (by simp; omega)
   simp only [Int.natCast_add, Int.natCast_one] at e
   rw [decl_writer_stop.L1_1_1_1_1_1_0_1_0_eq, whenW_drop hi]
   have e1 := hx i hi
   have e3 : ([[V.str (B [119, 104, 101, 110])], [V.str (B (prX x.whn[i]).1)]] : List (List V)) = sv [[119, 104, 101, 110], (prX x.whn[i]).1] := rfl
   simp (disch := omega) [hi, e1, most_if, wrap_in, List.getElem?_cons_zero, e3, e]
 have good : ∀ i : Nat, i <= x.whn.length -> ∀ (ws : List (List UInt8)) (b : Bool), ws.length + 2 * (x.whn.length - i) <= 1000000000 -> decl_writer_stop.L1_1_1_1_1_1_0_1_0v1 (x.whn.map Ex.v) (x.whn.length : Int) (i : Int) (sv ws) b x.side (B x.prc) x.mark (x.whn.map Ex.v) = some ⟨.ret (.tup []), [wD (ws ++ (whenW (x.whn.drop i) ++ [[59]])) (b || !okWhen (x.whn.drop i))], none⟩ := by
  refine down (fun ws b hw => ?_) fun i hi ih ws b hw => ?_
  ·have e := end_is ws b (by omega)
   unfold wD at *
   rw [decl_writer_stop.L1_1_1_1_1_1_0_1_0v1_eq]
   simp [e, whenW, okWhen]
  ·have e := fun b => ih (ws ++ [[119, 104, 101, 110], (prX x.whn[i]).1]) b (by simp; omega)
   have e2 := bad (i + 1) hi (ws ++ [[119, 104, 101, 110], (prX x.whn[i]).1]) (by simp; omega)
   simp only [Int.natCast_add, Int.natCast_one] at e e2
   rw [decl_writer_stop.L1_1_1_1_1_1_0_1_0v1_eq, whenW_drop hi, okWhen_drop hi]
   have e1 := hx i hi
   have e3 : ([[V.str (B [119, 104, 101, 110])], [V.str (B (prX x.whn[i]).1)]] : List (List V)) = sv [[119, 104, 101, 110], (prX x.whn[i]).1] := rfl
   cases b <;> by_cases c : (prX x.whn[i]).2 = 0 <;> simp (disch := omega) [hi, e1, most_if, wrap_in, List.getElem?_cons_zero, e3, e, e2, c]
 have p1 := names_is [[98, 114, 101, 97, 107]] (by decide) (by decide) ws b (by omega)
 have n1 : nb [[98, 114, 101, 97, 107]] = false := by decide
 rw [n1, Bool.or_false] at p1
 have p2 := wside_is (ws ++ [[98, 114, 101, 97, 107]]) b x.side (by simp; omega)
 have p3 := names_is [x.prc] (by simp) (by simpa using ho.prc) (ws ++ [[98, 114, 101, 97, 107], sideT x.side]) (b || !sideK x.side) (by simp; omega)
 simp only [<- sv_one] at p1 p3
 obtain ⟨m1, m2⟩ := i64_bounds ho.mark
 have hm := num_Text_is x.mark m1 m2
 have b0 := bad 0 (Nat.zero_le _) (ws ++ [[98, 114, 101, 97, 107], sideT x.side, x.prc, decs x.mark]) (by simp; omega)
 have g0 := fun b => good 0 (Nat.zero_le _) (ws ++ [[98, 114, 101, 97, 107], sideT x.side, x.prc, decs x.mark]) b (by simp; omega)
 simp only [List.drop_zero, Int.natCast_zero] at b0 g0
 have hmo : ws.length + 3 + 1 <= most := by show _ <= 1099511627776; omega
 have cc : decide ((1 : Int) < (x.whn.length : Int)) = decide (1 < x.whn.length) := by congr 1; exact propext (by omega)
 have ew : ws ++ [[98, 114, 101, 97, 107], sideT x.side, x.prc, decs x.mark] ++ (whenW x.whn ++ [[59]]) = ws ++ breakW x := by unfold breakW; simp
 rw [ew] at b0 g0
 have hb : ∀ bb : Bool, (b || !sideK x.side || nb [x.prc]) = bb -> (b || nb [x.prc] || !sideK x.side || decide (x.mark < 0) || decide (1 < x.whn.length) || !okWhen x.whn) = (bb || decide (x.mark < 0) || decide (1 < x.whn.length) || !okWhen x.whn) := by
  rintro _ rfl
  cases b <;> cases nb [x.prc] <;> cases sideK x.side <;> rfl
 unfold wD at *
 rw [Bk.v, decl_writer_stop.eq]
 cases c : (b || !sideK x.side || nb [x.prc]) with
 | true =>
  rw [hb _ c]
  rw [c] at p3
  simp only [Bool.true_or] at b0 ⊢
  simp [p1, p2, p3, hm]
  simp (disch := (simp; omega)) [most_if, sv_one, cc]
  simpa [hmo] using b0
 | false =>
  rw [hb _ c]
  rw [c] at p3
  by_cases cm : x.mark < 0
  ·simp [p1, p2, p3, hm, cm]
   simp (disch := (simp; omega)) [most_if, sv_one, cc]
   simpa [hmo] using b0
  ·have g1 := g0 (decide (1 < x.whn.length))
   simp [p1, p2, p3, hm, cm]
   simp (disch := (simp; omega)) [most_if, sv_one, cc]
   simpa [hmo] using g1
theorem strsOf_sv : ∀ l : List (List UInt8), strsOf (sv l) = some (l.map B)
 | [] => rfl
 | s :: l => by
  have := strsOf_sv l
  show (match strsOf (sv l) with | some r => some (B s :: r) | none => none) = _
  rw [this]; rfl
theorem inter_joinL : ∀ l : List (List UInt8), [32].intercalate l = joinL l
 | [] => rfl
 | [a] => by simp [List.intercalate, joinL]
 | a :: b :: l => by
  have := inter_joinL (b :: l)
  simp only [List.intercalate] at this ⊢
  rw [joinL_cons a (by simp), <- this]
  simp [List.intersperse]
theorem strings_Join_is (ws : List (List UInt8)) (hl : ws.length <= 1099511627776) (hw : weighW ws <= 1099511627776) : den Sp 34 [.sl .no T_string (sv ws), .str (B [32])] [] none = some ⟨.ret (.str (B (joinL ws))), [], none⟩ := by
 rw [den_eq]
 show natJoin T_string [.sl .no T_string (sv ws), .str (B [32])] [] = _
 have hj : joinB (ws.map B) (B [32]) = B (joinL ws) := by
  have e : (ws.map B).map (fun x => x.data.toList) = ws := by
   rw [List.map_map]
   have : ((fun x : ByteArray => x.data.toList) ∘ B) = id := by funext x; rfl
   rw [this, List.map_id]
  show (⟨([32].intercalate ((ws.map B).map fun x => x.data.toList)).toArray⟩ : ByteArray) = _
  rw [e, inter_joinL]; rfl
 have h1 := joinL_len ws
 unfold natJoin
 simp only [strsOf_sv, hj, List.length_map, B_size]
 rw [show Nat.beq T_string T_string = true from rfl, cond_true, if_pos ⟨hl, by show _ <= 1099511627776; omega⟩]
def finF (f : Fl) (ws : List (List UInt8)) (b : Bool) : Option Res := some ⟨.ret (if b then .tup [.str (B []), .int .i64 32] else if longF f then .tup [.str (B []), .int .i64 2] else .tup [.str (B (joinL ws)), .int .i64 0]), [], none⟩
def Okw (ws : List (List UInt8)) (b : Bool) (n : Nat) : Prop := ws.length + 10 * n <= 1000000 ∧ (b = false -> weighW ws + 1000 * n <= 1000000000)
theorem two_if {R : Type} (a b : Bool) (x y : R) : (bif a then x else bif b then x else y) = (bif (a || b) then x else y) := by cases a <;> rfl
theorem long_if (f : Fl) : (decide ((if ((f.keeps.length : Nat) : Int) > (if ((f.sames.length : Nat) : Int) > ((f.pairs.length : Nat) : Int) then ((f.sames.length : Nat) : Int) else ((f.pairs.length : Nat) : Int)) then ((f.keeps.length : Nat) : Int) else (if ((f.sames.length : Nat) : Int) > ((f.pairs.length : Nat) : Int) then ((f.sames.length : Nat) : Int) else ((f.pairs.length : Nat) : Int))) > 40) || decide ((if ((f.watches.length : Nat) : Int) > ((f.breaks.length : Nat) : Int) then ((f.watches.length : Nat) : Int) else ((f.breaks.length : Nat) : Int)) > 40)) = longF f := by
 unfold longF
 rw [Bool.eq_iff_iff]
 simp only [Bool.or_eq_true, decide_eq_true_eq]
 constructor
 ·intro h; split at h <;> split at h <;> (try split at h) <;> omega
 ·intro h; split <;> split <;> (try split) <;> omega
theorem Okw.step {ws w : List (List UInt8)} {b b' : Bool} {n c m : Nat} (h : Okw ws b n) (hn : n = c + m) (hl : w.length <= 10 * c) (hw : b' = false -> b = false ∧ weighW w <= 1000 * c) : Okw (ws ++ w) b' m := by
 obtain ⟨h1, h2⟩ := h
 refine ⟨by rw [List.length_append]; omega, fun hb => ?_⟩
 obtain ⟨h3, h4⟩ := hw hb
 have := h2 h3
 rw [weighW_app]; omega
theorem decl_Print_watches (f : Fl) (hf : FlOk f) (p2 s2 k2 b2 : Int) (rp rs rk rb : List (List V)) (p1 s1 k1 b1 : Int) : ∀ i : Nat, i <= f.watches.length -> ∀ (ws : List (List UInt8)) (b : Bool), Okw ws b (f.watches.length - i) ->
  decl_Print.L1_1_1_1_1_1_0_1_0 rp p1 p2 rs s1 s2 rk k1 k2 rb b1 b2 (f.watches.map Wt.v) (f.watches.length : Int) (i : Int) (f.pairs.map Pai.v) (f.sames.map Pai.v) (f.keeps.map Kp.v) (f.breaks.map Bk.v) (f.watches.map Wt.v) (sv ws) b = finF f (ws ++ linesW watchW (f.watches.drop i)) (b || !allK okWatch (f.watches.drop i)) := by
 refine down (fun ws b hw => ?_) fun i hi ih ws b hw => ?_
 ·have hj : b = false -> den Sp 34 [.sl .no T_string (sv ws), .str (B [32])] [] none = _ := fun hb => strings_Join_is ws (by have := hw.1; omega) (by have := hw.2 hb; omega)
  have hlong := long_if f
  rw [decl_Print.L1_1_1_1_1_1_0_1_0_eq]
  simp only [List.length_map, decide_eq_false (Int.lt_irrefl _), cond_false, List.drop_length, linesW, allK, Bool.not_true, Bool.or_false, List.append_nil, finF]
  cases b with
  | true => rfl
  | false =>
   have := hj rfl
   rw [cond_false, two_if, hlong]
   cases longF f with
   | true => rfl
   | false =>
    rw [cond_false]
    refine (congrArg (fun o => Option.bind o _) this).trans ?_
    rfl
 ·have ho := hf.watches.2 _ (List.getElem_mem hi)
  have hlw := hf.watches.1
  have wr : IntKind.i64.wrap ((i : Int) + 1) = (i : Int) + 1 := wrap_in (by omega) (by omega)
  generalize hx : f.watches[i] = x at ho
  have q1 := isName_is [x.prc, x.vr] (by simp) (by simpa using ⟨ho.prc, ho.vr⟩)
  have l0 := hw.1
  have q2 := fun b => names_is [[119, 97, 116, 99, 104]] (by decide) (by decide) ws b (by omega)
  have q3 := fun b => wside_is (ws ++ [[119, 97, 116, 99, 104]]) b x.side (by simp; omega)
  have q4 := fun b => names_is [x.prc, x.vr] (by simp) (by simpa using ⟨ho.prc, ho.vr⟩) (ws ++ [[119, 97, 116, 99, 104], sideT x.side]) b (by simp; omega)
  have q5 := fun b => end_is (ws ++ [[119, 97, 116, 99, 104], sideT x.side, x.prc, x.vr]) b (by simp; omega)
  have n1 : nb [[119, 97, 116, 99, 104]] = false := by decide
  simp only [n1, Bool.or_false] at q2
  have e1 : ([[V.str (B [119, 97, 116, 99, 104])]] : List (List V)) = sv [[119, 97, 116, 99, 104]] := rfl
  have e2 : ([[V.str (B x.prc)], [V.str (B x.vr)]] : List (List V)) = sv [x.prc, x.vr] := rfl
  have ihb := fun (b' : Bool) (h : b' = false -> b = false ∧ okWatch x = true) => ih (ws ++ watchW x) b' (hw.step (c := 1) (by omega) (by simp [watchW]) (fun hb => ⟨(h hb).1, by have := watchW_weigh (h hb).2; omega⟩))
  simp only [Int.natCast_add, Int.natCast_one] at ihb
  rw [linesW_drop hi, allK_drop hi, hx, <- List.append_assoc]
  have hat : (f.watches.map Wt.v).getD i [] = x.v := by rw [map_at _ _ _ hi, hx]
  have g0 : (b || !(okWatch x && allK okWatch (List.drop (i + 1) f.watches))) = (b || !okWatch x || !allK okWatch (List.drop (i + 1) f.watches)) := by cases b <;> cases okWatch x <;> rfl
  rw [g0]
  have g1 : okWatch x = (isN x.prc && isN x.vr && sideK x.side) := rfl
  have g2 : isN x.prc = true -> isN x.vr = true -> nb [x.prc, x.vr] = false := fun h1 h2 => by simp [nb, h1, h2]
  unfold wD at *
  rw [decl_Print.L1_1_1_1_1_1_0_1_0_eq]
  simp only [List.length_map, decide_eq_true (show (i : Int) < (f.watches.length : Int) by omega), cond_true, if_pos (in_row hi), Int.toNat_natCast, hat, Wt.v_0, Wt.v_1, Wt.v_2, asInt_int, asStr_str, wr]
  have ew : ws ++ [[119, 97, 116, 99, 104], sideT x.side, x.prc, x.vr] ++ [[59]] = ws ++ watchW x := by simp [watchW]
  simp only [ew] at q5
  cases b with
  | true =>
   have := ihb true nofun
   simp [e1, e2, q2, q3, q4, q5]
   simpa using this
  | false =>
   cases c1 : isN x.prc with
   | false =>
    have := ihb true nofun
    simp [e1, e2, q1, q2, q3, q4, q5, c1]
    simpa [g1, c1] using this
   | true => cases c2 : isN x.vr with
    | false =>
     have := ihb true nofun
     simp [e1, e2, q1, q2, q3, q4, q5, c1, c2]
     simpa [g1, c1, c2] using this
    | true =>
     have := ihb (!sideK x.side) (fun h => ⟨rfl, by rw [g1, c1, c2]; simpa using h⟩)
     simp [e1, e2, q1, q2, q3, q4, q5, c1, c2, g2 c1 c2]
     simpa [g1, c1, c2] using this
theorem decl_Print_breaks (f : Fl) (hf : FlOk f) (hbk : Bk.sizes f.breaks <= 600) (p2 s2 k2 : Int) (rp rs rk : List (List V)) (p1 s1 k1 : Int) : ∀ i : Nat, i <= f.breaks.length -> ∀ (ws : List (List UInt8)) (b : Bool), Okw ws b (Bk.sizes (f.breaks.drop i) + f.watches.length) ->
  decl_Print.L1_1_1_1_1_0_1_0 rp p1 p2 rs s1 s2 rk k1 k2 (f.breaks.map Bk.v) (f.breaks.length : Int) (i : Int) (f.pairs.map Pai.v) (f.sames.map Pai.v) (f.keeps.map Kp.v) (f.breaks.map Bk.v) (f.watches.map Wt.v) (sv ws) b = finF f (ws ++ (linesW breakW (f.breaks.drop i) ++ linesW watchW f.watches)) (b || !(allK okBreak (f.breaks.drop i) && allK okWatch f.watches)) := by
 refine down (fun ws b hw => ?_) fun i hi ih ws b hw => ?_
 ·have e := decl_Print_watches f hf p2 s2 k2 (f.breaks.length : Int) rp rs rk (f.breaks.map Bk.v) p1 s1 k1 (f.breaks.length : Int) 0 (Nat.zero_le _) ws b (by simpa [Bk.sizes] using hw)
  rw [decl_Print.L1_1_1_1_1_0_1_0_eq]
  simp only [List.length_map, decide_eq_false (Int.lt_irrefl _), cond_false, List.drop_length, linesW, allK, Bool.true_and, List.nil_append]
  exact e
 ·have ho := hf.breaks.2 _ (List.getElem_mem hi)
  have hsz := Bk.sizes_mem (List.getElem_mem hi)
  have hlw := hf.breaks.1
  have wr : IntKind.i64.wrap ((i : Int) + 1) = (i : Int) + 1 := wrap_in (by omega) (by omega)
  rw [Bk.sizes_drop hi] at hw
  generalize hx : f.breaks[i] = x at ho hsz hw
  have q1 := isName_is [x.prc] (by simp) (by simpa using ho.prc)
  have l0 := hw.1
  have q2 := fun b => stop_is x ho (by omega) ws b (by omega)
  have e2 : ([[V.str (B x.prc)]] : List (List V)) = sv [x.prc] := rfl
  have hlen := breakW_len x
  have ihb := fun (b' : Bool) (h : b' = false -> b = false ∧ okBreak x = true) => ih (ws ++ breakW x) b' (hw.step (c := 1 + x.whn.length + Ex.sizes x.whn) (by omega) (by omega) (fun hb => ⟨(h hb).1, breakW_weigh (h hb).2⟩))
  simp only [Int.natCast_add, Int.natCast_one] at ihb
  rw [linesW_drop hi, allK_drop hi, hx, List.append_assoc, <- List.append_assoc ws]
  have hat : (f.breaks.map Bk.v).getD i [] = x.v := by rw [map_at _ _ _ hi, hx]
  have g0 : (b || !(okBreak x && allK okBreak (List.drop (i + 1) f.breaks) && allK okWatch f.watches)) = (b || !okBreak x || !(allK okBreak (List.drop (i + 1) f.breaks) && allK okWatch f.watches)) := by cases b <;> cases okBreak x <;> rfl
  rw [g0]
  have g1 : (!isN x.prc || nb [x.prc] || !sideK x.side || decide (x.mark < 0) || decide (1 < x.whn.length) || !okWhen x.whn) = !okBreak x := by
   have a1 : decide (x.mark < 0) = !decide (0 <= x.mark) := by by_cases h : 0 <= x.mark <;> simp [h] <;> omega
   have a2 : decide (1 < x.whn.length) = !decide (x.whn.length < 2) := by by_cases h : x.whn.length < 2 <;> simp [h] <;> omega
   unfold okBreak
   rw [a1, a2]
   cases c : isN x.prc with
   | false => simp
   | true => rw [isN_nb c]; cases sideK x.side <;> cases decide (0 <= x.mark) <;> cases decide (x.whn.length < 2) <;> rfl
  have hv : [V.int .i64 x.side, .str (B x.prc), .int .i64 x.mark, .sl .no T_api_Expr (x.whn.map Ex.v)] = x.v := rfl
  unfold wD at *
  rw [decl_Print.L1_1_1_1_1_0_1_0_eq]
  simp only [List.length_map, decide_eq_true (show (i : Int) < (f.breaks.length : Int) by omega), cond_true, if_pos (in_row hi), Int.toNat_natCast, hat, Bk.v_0, Bk.v_1, Bk.v_2, Bk.v_3, asInt_int, asStr_str, asSl_sl, wr, hv]
  cases b with
  | true =>
   have := ihb true nofun
   simp only [Bool.true_or] at q2 this ⊢
   have q2 := q2 true
   simp only [Bool.true_or] at q2
   simp [q2]
   simpa using this
  | false =>
   have q3 := q2 (!isN x.prc)
   rw [g1] at q3
   have := ihb (!okBreak x) (fun h => ⟨rfl, by simpa using h⟩)
   simp [e2, q1, q3]
   simpa using this
theorem decl_Print_keeps (f : Fl) (hf : FlOk f) (hbk : Bk.sizes f.breaks <= 600) (p2 s2 : Int) (rp rs : List (List V)) (p1 s1 : Int) : ∀ i : Nat, i <= f.keeps.length -> ∀ (ws : List (List UInt8)) (b : Bool), Okw ws b (f.keeps.length - i + (Bk.sizes f.breaks + f.watches.length)) ->
  decl_Print.L1_1_1_1_0_1_0 rp p1 p2 rs s1 s2 (f.keeps.map Kp.v) (f.keeps.length : Int) (i : Int) (f.pairs.map Pai.v) (f.sames.map Pai.v) (f.keeps.map Kp.v) (f.breaks.map Bk.v) (f.watches.map Wt.v) (sv ws) b = finF f (ws ++ (linesW keepW (f.keeps.drop i) ++ (linesW breakW f.breaks ++ linesW watchW f.watches))) (b || !(allK okKeep (f.keeps.drop i) && (allK okBreak f.breaks && allK okWatch f.watches))) := by
 refine down (fun ws b hw => ?_) fun i hi ih ws b hw => ?_
 ·have e := decl_Print_breaks f hf hbk p2 s2 (f.keeps.length : Int) rp rs (f.keeps.map Kp.v) p1 s1 (f.keeps.length : Int) 0 (Nat.zero_le _) ws b (by simpa using hw)
  rw [decl_Print.L1_1_1_1_0_1_0_eq]
  simp only [List.length_map, decide_eq_false (Int.lt_irrefl _), cond_false, List.drop_length, linesW, allK, Bool.true_and, List.nil_append]
  exact e
 ·have ho := hf.keeps.2 _ (List.getElem_mem hi)
  have hlw := hf.keeps.1
  have wr : IntKind.i64.wrap ((i : Int) + 1) = (i : Int) + 1 := wrap_in (by omega) (by omega)
  generalize hx : f.keeps[i] = x at ho
  have q1 := isName_is [x.prc, x.vr] (by simp) (by simpa using ⟨ho.prc, ho.vr⟩)
  have l0 := hw.1
  have q2 := fun b => names_is [[107, 101, 101, 112]] (by decide) (by decide) ws b (by omega)
  have q3 := fun b => wside_is (ws ++ [[107, 101, 101, 112]]) b x.side (by simp; omega)
  have q4 := fun b => names_is [x.prc, x.vr] (by simp) (by simpa using ⟨ho.prc, ho.vr⟩) (ws ++ [[107, 101, 101, 112], sideT x.side]) b (by simp; omega)
  have q5 := fun b => end_is (ws ++ [[107, 101, 101, 112], sideT x.side, x.prc, x.vr]) b (by simp; omega)
  have n1 : nb [[107, 101, 101, 112]] = false := by decide
  simp only [n1, Bool.or_false] at q2
  have e1 : ([[V.str (B [107, 101, 101, 112])]] : List (List V)) = sv [[107, 101, 101, 112]] := rfl
  have e2 : ([[V.str (B x.prc)], [V.str (B x.vr)]] : List (List V)) = sv [x.prc, x.vr] := rfl
  have ihb := fun (b' : Bool) (h : b' = false -> b = false ∧ okKeep x = true) => ih (ws ++ keepW x) b' (hw.step (c := 1) (by omega) (by simp [keepW]) (fun hb => ⟨(h hb).1, by have := keepW_weigh (h hb).2; omega⟩))
  simp only [Int.natCast_add, Int.natCast_one] at ihb
  rw [linesW_drop hi, allK_drop hi, hx, List.append_assoc, <- List.append_assoc ws]
  have hat : (f.keeps.map Kp.v).getD i [] = x.v := by rw [map_at _ _ _ hi, hx]
  have g0 : (b || !(okKeep x && allK okKeep (List.drop (i + 1) f.keeps) && (allK okBreak f.breaks && allK okWatch f.watches))) = (b || !okKeep x || !(allK okKeep (List.drop (i + 1) f.keeps) && (allK okBreak f.breaks && allK okWatch f.watches))) := by cases b <;> cases okKeep x <;> rfl
  rw [g0]
  have g1 : okKeep x = (isN x.prc && isN x.vr && sideK x.side) := rfl
  have g2 : isN x.prc = true -> isN x.vr = true -> nb [x.prc, x.vr] = false := fun h1 h2 => by simp [nb, h1, h2]
  unfold wD at *
  rw [decl_Print.L1_1_1_1_0_1_0_eq]
  simp only [List.length_map, decide_eq_true (show (i : Int) < (f.keeps.length : Int) by omega), cond_true, if_pos (in_row hi), Int.toNat_natCast, hat, Kp.v_0, Kp.v_1, Kp.v_2, asInt_int, asStr_str, wr]
  have ew : ws ++ [[107, 101, 101, 112], sideT x.side, x.prc, x.vr] ++ [[59]] = ws ++ keepW x := by simp [keepW]
  simp only [ew] at q5
  cases b with
  | true =>
   have := ihb true nofun
   simp [e1, e2, q2, q3, q4, q5]
   simpa using this
  | false =>
   cases c1 : isN x.prc with
   | false =>
    have := ihb true nofun
    simp [e1, e2, q1, q2, q3, q4, q5, c1]
    simpa [g1, c1] using this
   | true => cases c2 : isN x.vr with
    | false =>
     have := ihb true nofun
     simp [e1, e2, q1, q2, q3, q4, q5, c1, c2]
     simpa [g1, c1, c2] using this
    | true =>
     have := ihb (!sideK x.side) (fun h => ⟨rfl, by rw [g1, c1, c2]; simpa using h⟩)
     simp [e1, e2, q1, q2, q3, q4, q5, c1, c2, g2 c1 c2]
     simpa [g1, c1, c2] using this
theorem decl_Print_sames (f : Fl) (hf : FlOk f) (hbk : Bk.sizes f.breaks <= 600) (p2 : Int) (rp : List (List V)) (p1 : Int) : ∀ i : Nat, i <= f.sames.length -> ∀ (ws : List (List UInt8)) (b : Bool), Okw ws b (f.sames.length - i + (f.keeps.length + (Bk.sizes f.breaks + f.watches.length))) ->
  decl_Print.L1_1_1_0_1_0 rp p1 p2 (f.sames.map Pai.v) (f.sames.length : Int) (i : Int) (f.pairs.map Pai.v) (f.sames.map Pai.v) (f.keeps.map Kp.v) (f.breaks.map Bk.v) (f.watches.map Wt.v) (sv ws) b = finF f (ws ++ (linesW sameW (f.sames.drop i) ++ (linesW keepW f.keeps ++ (linesW breakW f.breaks ++ linesW watchW f.watches)))) (b || !(allK okSame (f.sames.drop i) && (allK okKeep f.keeps && (allK okBreak f.breaks && allK okWatch f.watches)))) := by
 refine down (fun ws b hw => ?_) fun i hi ih ws b hw => ?_
 ·have e := decl_Print_keeps f hf hbk p2 (f.sames.length : Int) rp (f.sames.map Pai.v) p1 (f.sames.length : Int) 0 (Nat.zero_le _) ws b (by simpa using hw)
  rw [decl_Print.L1_1_1_0_1_0_eq]
  simp only [List.length_map, decide_eq_false (Int.lt_irrefl _), cond_false, List.drop_length, linesW, allK, Bool.true_and, List.nil_append]
  exact e
 ·have ho := hf.sames.2 _ (List.getElem_mem hi)
  have hlw := hf.sames.1
  have wr : IntKind.i64.wrap ((i : Int) + 1) = (i : Int) + 1 := wrap_in (by omega) (by omega)
  generalize hx : f.sames[i] = x at ho
  have q1 := isName_is [x.procA, x.varA, x.procB, x.varB] (by simp) (by simpa using ⟨ho.procA, ho.varA, ho.procB, ho.varB⟩)
  have l0 := hw.1
  have q2 := fun b => names_is [[115, 97, 109, 101], x.procA, [40], x.varA, [41], x.procB, [40], x.varB, [41]] (by simp) (by simpa using ⟨ho.procA, ho.varA, ho.procB, ho.varB⟩) ws b (by omega)
  have q5 := fun b => end_is (ws ++ [[115, 97, 109, 101], x.procA, [40], x.varA, [41], x.procB, [40], x.varB, [41]]) b (by simp; omega)
  have e1 : ([[V.str (B [115, 97, 109, 101])], [V.str (B x.procA)], [V.str (B [40])], [V.str (B x.varA)], [V.str (B [41])], [V.str (B x.procB)], [V.str (B [40])], [V.str (B x.varB)], [V.str (B [41])]] : List (List V)) = sv [[115, 97, 109, 101], x.procA, [40], x.varA, [41], x.procB, [40], x.varB, [41]] := rfl
  have e2 : ([[V.str (B x.procA)], [V.str (B x.varA)], [V.str (B x.procB)], [V.str (B x.varB)]] : List (List V)) = sv [x.procA, x.varA, x.procB, x.varB] := rfl
  have ihb := fun (b' : Bool) (h : b' = false -> b = false ∧ okSame x = true) => ih (ws ++ sameW x) b' (hw.step (c := 1) (by omega) (by simp [sameW]) (fun hb => ⟨(h hb).1, by have := sameW_weigh (h hb).2; omega⟩))
  simp only [Int.natCast_add, Int.natCast_one] at ihb
  rw [linesW_drop hi, allK_drop hi, hx, List.append_assoc, <- List.append_assoc ws]
  have hat : (f.sames.map Pai.v).getD i [] = x.v := by rw [map_at _ _ _ hi, hx]
  generalize hrest : (allK okKeep f.keeps && (allK okBreak f.breaks && allK okWatch f.watches)) = rest at ihb ⊢
  have g0 : (b || !(okSame x && allK okSame (List.drop (i + 1) f.sames) && rest)) = (b || !okSame x || !(allK okSame (List.drop (i + 1) f.sames) && rest)) := by cases b <;> cases okSame x <;> rfl
  rw [g0]
  have gs : isN [115, 97, 109, 101] = true := by decide
  have g1 : okSame x = (isN x.procA && isN x.procB && isN x.varA && isN x.varB) := rfl
  have g2 : okSame x = true -> nb [[115, 97, 109, 101], x.procA, [40], x.varA, [41], x.procB, [40], x.varB, [41]] = false := fun h => by
   rw [g1] at h
   simp only [Bool.and_eq_true] at h
   simp [nb, gs, h]
  have g3 : ([x.procA, x.varA, x.procB, x.varB].all isN) = okSame x := by
   rw [g1]; simp only [List.all_cons, List.all_nil, Bool.and_true]
   cases isN x.procA <;> cases isN x.procB <;> cases isN x.varA <;> rfl
  rw [g3] at q1
  unfold wD at *
  rw [decl_Print.L1_1_1_0_1_0_eq]
  simp only [List.length_map, decide_eq_true (show (i : Int) < (f.sames.length : Int) by omega), cond_true, if_pos (in_row hi), Int.toNat_natCast, hat, Pai.v_0, Pai.v_1, Pai.v_2, Pai.v_3, asInt_int, asStr_str, wr]
  have ew : ws ++ [[115, 97, 109, 101], x.procA, [40], x.varA, [41], x.procB, [40], x.varB, [41]] ++ [[59]] = ws ++ sameW x := by simp [sameW]
  simp only [ew] at q5
  cases b with
  | true =>
   have := ihb true nofun
   simp [e1, e2, q2, q5]
   simpa using this
  | false =>
   cases c1 : okSame x with
   | false =>
    have := ihb true nofun
    rw [c1] at q1
    simp [e1, e2, q1, q2, q5]
    simpa using this
   | true =>
    have := ihb false (fun _ => ⟨rfl, c1⟩)
    rw [c1] at q1
    simp [e1, e2, q1, q2, q5, g2 c1]
    simpa using this
theorem decl_Print_pairs (f : Fl) (hf : FlOk f) (hbk : Bk.sizes f.breaks <= 600) : ∀ i : Nat, i <= f.pairs.length -> ∀ (ws : List (List UInt8)) (b : Bool), Okw ws b (f.pairs.length - i + (f.sames.length + (f.keeps.length + (Bk.sizes f.breaks + f.watches.length)))) ->
  decl_Print.L1_1_0_1_0 (f.pairs.map Pai.v) (f.pairs.length : Int) (i : Int) (f.pairs.map Pai.v) (f.sames.map Pai.v) (f.keeps.map Kp.v) (f.breaks.map Bk.v) (f.watches.map Wt.v) (sv ws) b = finF f (ws ++ (linesW pairW (f.pairs.drop i) ++ (linesW sameW f.sames ++ (linesW keepW f.keeps ++ (linesW breakW f.breaks ++ linesW watchW f.watches))))) (b || !(allK okPair (f.pairs.drop i) && (allK okSame f.sames && (allK okKeep f.keeps && (allK okBreak f.breaks && allK okWatch f.watches))))) := by
 refine down (fun ws b hw => ?_) fun i hi ih ws b hw => ?_
 ·have e := decl_Print_sames f hf hbk (f.pairs.length : Int) (f.pairs.map Pai.v) (f.pairs.length : Int) 0 (Nat.zero_le _) ws b (by simpa using hw)
  rw [decl_Print.L1_1_0_1_0_eq]
  simp only [List.length_map, decide_eq_false (Int.lt_irrefl _), cond_false, List.drop_length, linesW, allK, Bool.true_and, List.nil_append]
  exact e
 ·have ho := hf.pairs.2 _ (List.getElem_mem hi)
  have hlw := hf.pairs.1
  have wr : IntKind.i64.wrap ((i : Int) + 1) = (i : Int) + 1 := wrap_in (by omega) (by omega)
  generalize hx : f.pairs[i] = x at ho
  have q1 := isName_is [x.procA, x.procB] (by simp) (by simpa using ⟨ho.procA, ho.procB⟩)
  have l0 := hw.1
  have q2 := fun b => names_is [[112, 97, 105, 114], x.procA, x.procB] (by simp) (by simpa using ⟨ho.procA, ho.procB⟩) ws b (by omega)
  have q5 := fun b => end_is (ws ++ [[112, 97, 105, 114], x.procA, x.procB]) b (by simp; omega)
  have e1 : ([[V.str (B [112, 97, 105, 114])], [V.str (B x.procA)], [V.str (B x.procB)]] : List (List V)) = sv [[112, 97, 105, 114], x.procA, x.procB] := rfl
  have e2 : ([[V.str (B x.procA)], [V.str (B x.procB)]] : List (List V)) = sv [x.procA, x.procB] := rfl
  have e3 : ([V.str (B [112, 97, 105, 114])] :: sv [x.procA, x.procB] : List (List V)) = sv [[112, 97, 105, 114], x.procA, x.procB] := rfl
  have ihb := fun (b' : Bool) (h : b' = false -> b = false ∧ okPair x = true) => ih (ws ++ pairW x) b' (hw.step (c := 1) (by omega) (by simp [pairW]) (fun hb => ⟨(h hb).1, by have := pairW_weigh (h hb).2; omega⟩))
  simp only [Int.natCast_add, Int.natCast_one] at ihb
  rw [linesW_drop hi, allK_drop hi, hx, List.append_assoc, <- List.append_assoc ws]
  have hat : (f.pairs.map Pai.v).getD i [] = x.v := by rw [map_at _ _ _ hi, hx]
  generalize hrest : (allK okSame f.sames && (allK okKeep f.keeps && (allK okBreak f.breaks && allK okWatch f.watches))) = rest at ihb ⊢
  have g0 : (b || !(okPair x && allK okPair (List.drop (i + 1) f.pairs) && rest)) = (b || !okPair x || !(allK okPair (List.drop (i + 1) f.pairs) && rest)) := by cases b <;> cases okPair x <;> rfl
  rw [g0]
  have gs : isN [112, 97, 105, 114] = true := by decide
  have g1 : okPair x = (isN x.procA && isN x.procB && decide (x.varA = []) && decide (x.varB = [])) := rfl
  have g2 : okPair x = true -> nb [[112, 97, 105, 114], x.procA, x.procB] = false := fun h => by
   rw [g1] at h
   simp only [Bool.and_eq_true] at h
   simp [nb, gs, h]
  unfold wD at *
  rw [decl_Print.L1_1_0_1_0_eq]
  simp only [List.length_map, decide_eq_true (show (i : Int) < (f.pairs.length : Int) by omega), cond_true, if_pos (in_row hi), Int.toNat_natCast, hat, Pai.v_0, Pai.v_1, Pai.v_2, Pai.v_3, asInt_int, asStr_str, wr]
  have ew : ws ++ [[112, 97, 105, 114], x.procA, x.procB] ++ [[59]] = ws ++ pairW x := by simp [pairW]
  simp only [ew] at q5
  cases b with
  | true =>
   have := ihb true nofun
   simp [e1, e2, e3, q2, q5]
   simpa using this
  | false =>
   by_cases v1 : x.varA = []
   ·by_cases v2 : x.varB = []
    ·cases c1 : isN x.procA with
     | false =>
      have := ihb true nofun
      simp [e1, e2, e3, q1, q2, q5, v1, v2, c1]
      simpa [g1, c1] using this
     | true => cases c2 : isN x.procB with
      | false =>
       have := ihb true nofun
       simp [e1, e2, e3, q1, q2, q5, v1, v2, c1, c2]
       simpa [g1, c1, c2] using this
      | true =>
       have ok : okPair x = true := by simp [g1, v1, v2, c1, c2]
       have := ihb false (fun _ => ⟨rfl, ok⟩)
       simp [e1, e2, e3, q1, q2, q5, v1, v2, c1, c2, g2 ok]
       simpa [ok] using this
    ·have := ihb true nofun
     simp [e1, e2, e3, q2, q5, v1, v2]
     simpa [g1, v2] using this
   ·have := ihb true nofun
    simp [e1, e2, e3, q2, q5, v1]
    simpa [g1, v1] using this
theorem decl_Print_is (f : Fl) (hf : FlOk f) (hg : NotGreat f) : den Sp decl_Print.id [.agg f.ov] [] none = some ⟨.ret (.tup [.str (B (prF f).1), .int .i64 (prF f).2]), [], none⟩ := by
 have hn := hg.num
 have e := decl_Print_pairs f hf (by omega) 0 (Nat.zero_le _) [] false ⟨by simp; omega, fun _ => by simp [weighW]; omega⟩
 simp only [List.drop_zero, Int.natCast_zero, sv_nil, List.nil_append, Bool.false_or] at e
 unfold Fl.ov
 rw [decl_Print.eq, List.length_map]
 refine e.trans ?_
 unfold finF prF okFile fileW
 cases (allK okPair f.pairs && (allK okSame f.sames && (allK okKeep f.keeps && (allK okBreak f.breaks && allK okWatch f.watches)))) with
 | false => rfl
 | true => cases longF f <;> rfl
end Go.Proofs.YtmhnmelaodhemaaGreatDoor
namespace Go.Proofs.YtmhnmelaodhemaaGreatDoor
open Go Go.Proofs.Ab
namespace ref03_RightExpr
noncomputable abbrev e (p : List Nat) := ev Sp (den Sp) id Tryz.f67.ntmps (cAt (bodyOf Tryz.f67) p)
noncomputable abbrev cn (n0 : List Nat) := canon Sp id n0
noncomputable abbrev K : K := kFin Sp (den Sp) Tryz.f67 0
noncomputable def J1_1_1_0 (b0 b1 : Bool) (i2 : Int) (s3 : ByteArray) (i4 : Int) (l5 : List (List V)) : Option Res := joinAt Sp (den Sp) id Tryz.f67.ntmps (cAt (bodyOf Tryz.f67) [1, 1, 1, 0]) (kSeq (e [1, 1, 1, 1]) (K)) ([(1, (V.ref 1001 0)), (3, (V.bool b0)), (4, (V.bool b1)), (5, V.undef), (6, V.undef), (7, V.undef)], ⟨[(1001, (Blk.cells T_api_Expr [V.int .i64 i2, V.str s3, V.int .i64 i4, V.sl .no T_api_Expr l5] false))], [], [], [], none⟩)
noncomputable def J1_1_1_1_0_0 (b0 b1 b2 : Bool) (i3 : Int) (s4 : ByteArray) (i5 : Int) (l6 : List (List V)) : Option Res := joinAt Sp (den Sp) id Tryz.f67.ntmps (cAt (bodyOf Tryz.f67) [1, 1, 1, 1, 0, 0]) (kSeq (e [1, 1, 1, 1, 0, 1]) (kSeq (e [1, 1, 1, 1, 1]) (K))) ([(1, (V.ref 1001 0)), (3, (V.bool b0)), (4, (V.bool b1)), (5, (V.bool b2)), (6, V.undef), (7, V.undef)], ⟨[(1001, (Blk.cells T_api_Expr [V.int .i64 i3, V.str s4, V.int .i64 i5, V.sl .no T_api_Expr l6] false))], [], [], [], none⟩)
noncomputable def J1_1_1_1_1_0 (b0 b1 b2 : Bool) (i3 : Int) (s4 : ByteArray) (i5 : Int) (l6 : List (List V)) : Option Res := joinAt Sp (den Sp) id Tryz.f67.ntmps (cAt (bodyOf Tryz.f67) [1, 1, 1, 1, 1, 0]) (kSeq (e [1, 1, 1, 1, 1, 1]) (K)) ([(1, (V.ref 1001 0)), (3, (V.bool b0)), (4, (V.bool b1)), (5, (V.bool b2)), (6, V.undef), (7, V.undef)], ⟨[(1001, (Blk.cells T_api_Expr [V.int .i64 i3, V.str s4, V.int .i64 i5, V.sl .no T_api_Expr l6] false))], [], [], [], none⟩)
noncomputable def J1_1_1_1_1_1_1_0_0 (b0 b1 b2 : Bool) (i3 i4 : Int) (s5 : ByteArray) (i6 : Int) (l7 : List (List V)) : Option Res := joinAt Sp (den Sp) id Tryz.f67.ntmps (cAt (bodyOf Tryz.f67) [1, 1, 1, 1, 1, 1, 1, 0, 0]) (kSeq (e [1, 1, 1, 1, 1, 1, 1, 0, 1]) (kSeq (e [1, 1, 1, 1, 1, 1, 1, 1]) (K))) ([(1, (V.ref 1001 0)), (3, (V.bool b0)), (4, (V.bool b1)), (5, (V.bool b2)), (6, (V.int .i64 i3)), (7, V.undef)], ⟨[(1001, (Blk.cells T_api_Expr [V.int .i64 i4, V.str s5, V.int .i64 i6, V.sl .no T_api_Expr l7] false))], [], [], [], none⟩)
noncomputable def L1_1_1_1_1_1_1_1_0_1_0 (b0 b1 b2 : Bool) (i3 i4 : Int) (s5 : ByteArray) (i6 : Int) (l7 : List (List V)) : Option Res := LP (e [1, 1, 1, 1, 1, 1, 1, 1, 0, 1, 0, 0]) (cn [1001]) (kBlk 0 (kSeq (e [1, 1, 1, 1, 1, 1, 1, 1, 1]) (K))) ([(1, (V.ref 1001 0)), (3, (V.bool b0)), (4, (V.bool b1)), (5, (V.bool b2)), (6, (V.int .i64 (2 : Int))), (7, (V.int .i64 i3))], ⟨[(1001, (Blk.cells T_api_Expr [V.int .i64 i4, V.str s5, V.int .i64 i6, V.sl .no T_api_Expr l7] false))], [], [], [], none⟩)
noncomputable def L1_1_1_1_1_1_1_1_0_1_0v1 (b0 b1 b2 : Bool) (i3 i4 i5 : Int) (s6 : ByteArray) (i7 : Int) (l8 : List (List V)) : Option Res := LP (e [1, 1, 1, 1, 1, 1, 1, 1, 0, 1, 0, 0]) (cn [1001]) (kBlk 0 (kSeq (e [1, 1, 1, 1, 1, 1, 1, 1, 1]) (K))) ([(1, (V.ref 1001 0)), (3, (V.bool b0)), (4, (V.bool b1)), (5, (V.bool b2)), (6, (V.int .i64 i3)), (7, (V.int .i64 i4))], ⟨[(1001, (Blk.cells T_api_Expr [V.int .i64 i5, V.str s6, V.int .i64 i7, V.sl .no T_api_Expr l8] false))], [], [], [], none⟩)
noncomputable def J1_1_1_1_0_1_0_0 (b0 b1 b2 : Bool) (i3 : Int) (s4 : ByteArray) (i5 : Int) (l6 : List (List V)) : Option Res := joinAt Sp (den Sp) id Tryz.f67.ntmps (cAt (bodyOf Tryz.f67) [1, 1, 1, 1, 0, 1, 0, 0]) (kSeq (e [1, 1, 1, 1, 0, 1, 0, 1]) (kSeq (e [1, 1, 1, 1, 1]) (K))) ([(1, (V.ref 1001 0)), (3, (V.bool b0)), (4, (V.bool b1)), (5, (V.bool b2)), (6, V.undef), (7, V.undef)], ⟨[(1001, (Blk.cells T_api_Expr [V.int .i64 i3, V.str s4, V.int .i64 i5, V.sl .no T_api_Expr l6] false))], [], [], [], none⟩)
theorem J1_1_1_0_eq (b0 b1 : Bool) (i2 : Int) (s3 : ByteArray) (i4 : Int) (l5 : List (List V)) : J1_1_1_0 b0 b1 i2 s3 i4 l5 =
  (bif (i2 == (1 : Int)) then (bif (decide (i4 >= (0 : Int))) then (J1_1_1_1_0_0 b0 b1 true i2 s3 i4 l5) else (bif (i2 == (2 : Int)) then (bif (i4 == (0 : Int)) then (J1_1_1_1_0_0 b0 b1 true i2 s3 i4 l5) else (J1_1_1_1_0_0 b0 b1 (i4 == (1 : Int)) i2 s3 i4 l5)) else (J1_1_1_1_0_0 b0 b1 false i2 s3 i4 l5))) else (bif (i2 == (2 : Int)) then (bif (i4 == (0 : Int)) then (J1_1_1_1_0_0 b0 b1 true i2 s3 i4 l5) else (J1_1_1_1_0_0 b0 b1 (i4 == (1 : Int)) i2 s3 i4 l5)) else (J1_1_1_1_0_0 b0 b1 false i2 s3 i4 l5))) := (joinAt_eq ..).trans (by kernel_rfl)
theorem J1_1_1_1_0_0_eq (b0 b1 b2 : Bool) (i3 : Int) (s4 : ByteArray) (i5 : Int) (l6 : List (List V)) : J1_1_1_1_0_0 b0 b1 b2 i3 s4 i5 l6 =
  (bif b0 then (den Sp ref02_IsName.id [V.str s4] [] none).bind (fun r22 => Res.onRet r22 (fun v23 => V.asBool v23 (fun b24 => bif b24 then (bif (i5 == (0 : Int)) then (J1_1_1_1_1_0 b0 b1 b2 i3 s4 i5 l6) else (bif b1 then (bif (i5 == (0 : Int)) then (J1_1_1_1_1_0 b0 b1 b2 i3 s4 i5 l6) else (bif b2 then (bif (!(decide (s4 = (ByteArray.mk #[])))) then (J1_1_1_1_0_1_0_0 b0 b1 b2 i3 s4 i5 l6) else (J1_1_1_1_1_0 b0 b1 b2 i3 s4 i5 l6)) else (J1_1_1_1_0_1_0_0 b0 b1 b2 i3 s4 i5 l6))) else (bif b2 then (bif (!(decide (s4 = (ByteArray.mk #[])))) then (J1_1_1_1_0_1_0_0 b0 b1 b2 i3 s4 i5 l6) else (J1_1_1_1_1_0 b0 b1 b2 i3 s4 i5 l6)) else (J1_1_1_1_0_1_0_0 b0 b1 b2 i3 s4 i5 l6)))) else (bif b1 then (bif (i5 == (0 : Int)) then (J1_1_1_1_1_0 b0 b1 b2 i3 s4 i5 l6) else (bif b2 then (bif (!(decide (s4 = (ByteArray.mk #[])))) then (J1_1_1_1_0_1_0_0 b0 b1 b2 i3 s4 i5 l6) else (J1_1_1_1_1_0 b0 b1 b2 i3 s4 i5 l6)) else (J1_1_1_1_0_1_0_0 b0 b1 b2 i3 s4 i5 l6))) else (bif b2 then (bif (!(decide (s4 = (ByteArray.mk #[])))) then (J1_1_1_1_0_1_0_0 b0 b1 b2 i3 s4 i5 l6) else (J1_1_1_1_1_0 b0 b1 b2 i3 s4 i5 l6)) else (J1_1_1_1_0_1_0_0 b0 b1 b2 i3 s4 i5 l6)))))) else (bif b1 then (bif (i5 == (0 : Int)) then (J1_1_1_1_1_0 b0 b1 b2 i3 s4 i5 l6) else (bif b2 then (bif (!(decide (s4 = (ByteArray.mk #[])))) then (J1_1_1_1_0_1_0_0 b0 b1 b2 i3 s4 i5 l6) else (J1_1_1_1_1_0 b0 b1 b2 i3 s4 i5 l6)) else (J1_1_1_1_0_1_0_0 b0 b1 b2 i3 s4 i5 l6))) else (bif b2 then (bif (!(decide (s4 = (ByteArray.mk #[])))) then (J1_1_1_1_0_1_0_0 b0 b1 b2 i3 s4 i5 l6) else (J1_1_1_1_1_0 b0 b1 b2 i3 s4 i5 l6)) else (J1_1_1_1_0_1_0_0 b0 b1 b2 i3 s4 i5 l6)))) := (joinAt_eq ..).trans (by kernel_rfl)
theorem J1_1_1_1_1_0_eq (b0 b1 b2 : Bool) (i3 : Int) (s4 : ByteArray) (i5 : Int) (l6 : List (List V)) : J1_1_1_1_1_0 b0 b1 b2 i3 s4 i5 l6 =
  (bif (i3 == (4 : Int)) then (J1_1_1_1_1_1_1_0_0 b0 b1 b2 (1 : Int) i3 s4 i5 l6) else (bif (i3 == (5 : Int)) then (J1_1_1_1_1_1_1_0_0 b0 b1 b2 (1 : Int) i3 s4 i5 l6) else (J1_1_1_1_1_1_1_0_0 b0 b1 b2 (0 : Int) i3 s4 i5 l6))) := (joinAt_eq ..).trans (by kernel_rfl)
theorem J1_1_1_1_1_1_1_0_0_eq (b0 b1 b2 : Bool) (i3 i4 : Int) (s5 : ByteArray) (i6 : Int) (l7 : List (List V)) : J1_1_1_1_1_1_1_0_0 b0 b1 b2 i3 i4 s5 i6 l7 =
  (bif (i4 == (6 : Int)) then (L1_1_1_1_1_1_1_1_0_1_0 b0 b1 b2 (0 : Int) i4 s5 i6 l7) else (L1_1_1_1_1_1_1_1_0_1_0v1 b0 b1 b2 i3 (0 : Int) i4 s5 i6 l7)) := (joinAt_eq ..).trans (by kernel_rfl)
theorem L1_1_1_1_1_1_1_1_0_1_0_eq (b0 b1 b2 : Bool) (i3 i4 : Int) (s5 : ByteArray) (i6 : Int) (l7 : List (List V)) : L1_1_1_1_1_1_1_1_0_1_0 b0 b1 b2 i3 i4 s5 i6 l7 =
  (bif (decide (i3 < (l7.length : Int))) then (if (((0 : Int) <= i3) ∧ (i3 < (l7.length : Int))) then (V.asInt (List.getD (List.getD l7 (Int.toNat i3) []) 0 V.undef) .i64 (fun n56 => V.asStr (List.getD (List.getD l7 (Int.toNat i3) []) 1 V.undef) (fun s57 => V.asInt (List.getD (List.getD l7 (Int.toNat i3) []) 2 V.undef) .i64 (fun n58 => V.asSl (List.getD (List.getD l7 (Int.toNat i3) []) 3 V.undef) T_api_Expr (fun es59 => (den Sp ref03_RightExpr.id [V.agg [V.int .i64 n56, V.str s57, V.int .i64 n58, V.sl .no T_api_Expr es59]] [] none).bind (fun r60 => Res.onRet r60 (fun v61 => V.asBool v61 (fun b62 => bif (!b62) then (some ⟨Out.ret (V.bool false), [], none⟩) else (L1_1_1_1_1_1_1_1_0_1_0 b0 b1 b2 (IntKind.wrap .i64 (i3 + (1 : Int))) i4 s5 i6 l7))))))))) else none) else (some ⟨Out.ret (V.bool ((l7.length : Int) == (2 : Int))), [], none⟩)) := (LP_eq ..).trans (by kernel_rfl)
theorem L1_1_1_1_1_1_1_1_0_1_0v1_eq (b0 b1 b2 : Bool) (i3 i4 i5 : Int) (s6 : ByteArray) (i7 : Int) (l8 : List (List V)) : L1_1_1_1_1_1_1_1_0_1_0v1 b0 b1 b2 i3 i4 i5 s6 i7 l8 =
  (bif (decide (i4 < (l8.length : Int))) then (if (((0 : Int) <= i4) ∧ (i4 < (l8.length : Int))) then (V.asInt (List.getD (List.getD l8 (Int.toNat i4) []) 0 V.undef) .i64 (fun n56 => V.asStr (List.getD (List.getD l8 (Int.toNat i4) []) 1 V.undef) (fun s57 => V.asInt (List.getD (List.getD l8 (Int.toNat i4) []) 2 V.undef) .i64 (fun n58 => V.asSl (List.getD (List.getD l8 (Int.toNat i4) []) 3 V.undef) T_api_Expr (fun es59 => (den Sp ref03_RightExpr.id [V.agg [V.int .i64 n56, V.str s57, V.int .i64 n58, V.sl .no T_api_Expr es59]] [] none).bind (fun r60 => Res.onRet r60 (fun v61 => V.asBool v61 (fun b62 => bif (!b62) then (some ⟨Out.ret (V.bool false), [], none⟩) else (L1_1_1_1_1_1_1_1_0_1_0v1 b0 b1 b2 i3 (IntKind.wrap .i64 (i4 + (1 : Int))) i5 s6 i7 l8))))))))) else none) else (some ⟨Out.ret (V.bool ((l8.length : Int) == i3)), [], none⟩)) := (LP_eq ..).trans (by kernel_rfl)
theorem J1_1_1_1_0_1_0_0_eq (b0 b1 b2 : Bool) (i3 : Int) (s4 : ByteArray) (i5 : Int) (l6 : List (List V)) : J1_1_1_1_0_1_0_0 b0 b1 b2 i3 s4 i5 l6 =
  (some ⟨Out.ret (V.bool false), [], none⟩) := (joinAt_eq ..).trans (by kernel_rfl)
theorem eq (a0_0 : Int) (a0_1 : ByteArray) (a0_2 : Int) (a0_3 : List (List V)) : den Sp id [V.agg [V.int .i64 a0_0, V.str a0_1, V.int .i64 a0_2, V.sl .no T_api_Expr a0_3]] [] none =
  (bif (a0_0 == (3 : Int)) then (bif (a0_0 == (5 : Int)) then (bif (decide (a0_1 = (ByteArray.mk #[45]))) then (J1_1_1_0 true true a0_0 a0_1 a0_2 a0_3) else (bif (decide (a0_1 = (ByteArray.mk #[33]))) then (J1_1_1_0 true true a0_0 a0_1 a0_2 a0_3) else (bif (a0_0 == (6 : Int)) then (den Sp ref03_Tight.id [V.str a0_1] [] none).bind (fun r7 => Res.onRet r7 (fun v8 => V.asInt v8 .i64 (fun n9 => J1_1_1_0 true (decide (n9 > (0 : Int))) a0_0 a0_1 a0_2 a0_3))) else (J1_1_1_0 true false a0_0 a0_1 a0_2 a0_3)))) else (bif (a0_0 == (6 : Int)) then (den Sp ref03_Tight.id [V.str a0_1] [] none).bind (fun r7 => Res.onRet r7 (fun v8 => V.asInt v8 .i64 (fun n9 => J1_1_1_0 true (decide (n9 > (0 : Int))) a0_0 a0_1 a0_2 a0_3))) else (J1_1_1_0 true false a0_0 a0_1 a0_2 a0_3))) else (bif (a0_0 == (5 : Int)) then (bif (decide (a0_1 = (ByteArray.mk #[45]))) then (J1_1_1_0 (a0_0 == (4 : Int)) true a0_0 a0_1 a0_2 a0_3) else (bif (decide (a0_1 = (ByteArray.mk #[33]))) then (J1_1_1_0 (a0_0 == (4 : Int)) true a0_0 a0_1 a0_2 a0_3) else (bif (a0_0 == (6 : Int)) then (den Sp ref03_Tight.id [V.str a0_1] [] none).bind (fun r7 => Res.onRet r7 (fun v8 => V.asInt v8 .i64 (fun n9 => J1_1_1_0 (a0_0 == (4 : Int)) (decide (n9 > (0 : Int))) a0_0 a0_1 a0_2 a0_3))) else (J1_1_1_0 (a0_0 == (4 : Int)) false a0_0 a0_1 a0_2 a0_3)))) else (bif (a0_0 == (6 : Int)) then (den Sp ref03_Tight.id [V.str a0_1] [] none).bind (fun r7 => Res.onRet r7 (fun v8 => V.asInt v8 .i64 (fun n9 => J1_1_1_0 (a0_0 == (4 : Int)) (decide (n9 > (0 : Int))) a0_0 a0_1 a0_2 a0_3))) else (J1_1_1_0 (a0_0 == (4 : Int)) false a0_0 a0_1 a0_2 a0_3)))) := (den_eq ..).trans (by kernel_rfl)
end ref03_RightExpr
namespace ref03_text
theorem eq (a0_0 : Int) (a0_1 : ByteArray) (a0_2 : Int) (a0_3 : List (List V)) (a1 : Int) : den Sp id [V.agg [V.int .i64 a0_0, V.str a0_1, V.int .i64 a0_2, V.sl .no T_api_Expr a0_3], V.int .i64 a1] [] none =
  (bif (a0_0 == (1 : Int)) then (den Sp ref01_Text.id [V.int .i64 a0_2] [] none).bind (fun r9 => Res.onRet r9 (fun v10 => V.asStr v10 (fun s11 => some ⟨Out.ret (V.tup [V.str s11, V.int .i64 a1]), [], none⟩))) else (bif (a0_0 == (2 : Int)) then (bif (a0_2 == (1 : Int)) then (some ⟨Out.ret (V.tup [V.str (ByteArray.mk #[116, 114, 117, 101]), V.int .i64 a1]), [], none⟩) else (some ⟨Out.ret (V.tup [V.str (ByteArray.mk #[102, 97, 108, 115, 101]), V.int .i64 a1]), [], none⟩)) else (bif (a0_0 == (4 : Int)) then (if (((0 : Int) <= (0 : Int)) ∧ ((0 : Int) < (a0_3.length : Int))) then (V.asInt (List.getD (List.getD a0_3 0 []) 0 V.undef) .i64 (fun n11 => V.asStr (List.getD (List.getD a0_3 0 []) 1 V.undef) (fun s12 => V.asInt (List.getD (List.getD a0_3 0 []) 2 V.undef) .i64 (fun n13 => V.asSl (List.getD (List.getD a0_3 0 []) 3 V.undef) T_api_Expr (fun es14 => (den Sp ref03_text.id [V.agg [V.int .i64 n11, V.str s12, V.int .i64 n13, V.sl .no T_api_Expr es14], V.int .i64 (IntKind.wrap .i64 (a1 + (1 : Int)))] [] none).bind (fun r15 => Res.onRet r15 (fun v16 => V.asTup v16 2 (fun rd17 => V.asStr (rd17 0) (fun s18 => V.asInt (rd17 1) .i64 (fun n19 => if (((ByteArray.size a0_1) + 3) <= most) then (if (((ByteArray.size (a0_1 ++ (ByteArray.mk #[32, 91, 32]))) + (ByteArray.size s18)) <= most) then (if (((ByteArray.size ((a0_1 ++ (ByteArray.mk #[32, 91, 32])) ++ s18)) + 2) <= most) then (some ⟨Out.ret (V.tup [V.str (((a0_1 ++ (ByteArray.mk #[32, 91, 32])) ++ s18) ++ (ByteArray.mk #[32, 93])), V.int .i64 n19]), [], none⟩) else none) else none) else none)))))))))) else none) else (bif (a0_0 == (5 : Int)) then (if (((0 : Int) <= (0 : Int)) ∧ ((0 : Int) < (a0_3.length : Int))) then (V.asInt (List.getD (List.getD a0_3 0 []) 0 V.undef) .i64 (fun n12 => V.asStr (List.getD (List.getD a0_3 0 []) 1 V.undef) (fun s13 => V.asInt (List.getD (List.getD a0_3 0 []) 2 V.undef) .i64 (fun n14 => V.asSl (List.getD (List.getD a0_3 0 []) 3 V.undef) T_api_Expr (fun es15 => (den Sp ref03_side.id [V.agg [V.int .i64 n12, V.str s13, V.int .i64 n14, V.sl .no T_api_Expr es15], V.int .i64 (IntKind.wrap .i64 (a1 + (1 : Int)))] [] none).bind (fun r16 => Res.onRet r16 (fun v17 => V.asTup v17 2 (fun rd18 => V.asStr (rd18 0) (fun s19 => V.asInt (rd18 1) .i64 (fun n20 => if (((ByteArray.size a0_1) + 1) <= most) then (if (((ByteArray.size (a0_1 ++ (ByteArray.mk #[32]))) + (ByteArray.size s19)) <= most) then (some ⟨Out.ret (V.tup [V.str ((a0_1 ++ (ByteArray.mk #[32])) ++ s19), V.int .i64 n20]), [], none⟩) else none) else none)))))))))) else none) else (bif (a0_0 == (6 : Int)) then (if (((0 : Int) <= (0 : Int)) ∧ ((0 : Int) < (a0_3.length : Int))) then (V.asInt (List.getD (List.getD a0_3 0 []) 0 V.undef) .i64 (fun n13 => V.asStr (List.getD (List.getD a0_3 0 []) 1 V.undef) (fun s14 => V.asInt (List.getD (List.getD a0_3 0 []) 2 V.undef) .i64 (fun n15 => V.asSl (List.getD (List.getD a0_3 0 []) 3 V.undef) T_api_Expr (fun es16 => (den Sp ref03_side.id [V.agg [V.int .i64 n13, V.str s14, V.int .i64 n15, V.sl .no T_api_Expr es16], V.int .i64 a1] [] none).bind (fun r17 => Res.onRet r17 (fun v18 => V.asTup v18 2 (fun rd19 => V.asStr (rd19 0) (fun s20 => V.asInt (rd19 1) .i64 (fun n21 => if (((0 : Int) <= (1 : Int)) ∧ ((1 : Int) < (a0_3.length : Int))) then (V.asInt (List.getD (List.getD a0_3 1 []) 0 V.undef) .i64 (fun n23 => V.asStr (List.getD (List.getD a0_3 1 []) 1 V.undef) (fun s24 => V.asInt (List.getD (List.getD a0_3 1 []) 2 V.undef) .i64 (fun n25 => V.asSl (List.getD (List.getD a0_3 1 []) 3 V.undef) T_api_Expr (fun es26 => (den Sp ref03_side.id [V.agg [V.int .i64 n23, V.str s24, V.int .i64 n25, V.sl .no T_api_Expr es26], V.int .i64 a1] [] none).bind (fun r27 => Res.onRet r27 (fun v28 => V.asTup v28 2 (fun rd29 => V.asStr (rd29 0) (fun s30 => V.asInt (rd29 1) .i64 (fun n31 => if (((ByteArray.size s20) + 1) <= most) then (if (((ByteArray.size (s20 ++ (ByteArray.mk #[32]))) + (ByteArray.size a0_1)) <= most) then (if (((ByteArray.size ((s20 ++ (ByteArray.mk #[32])) ++ a0_1)) + 1) <= most) then (if (((ByteArray.size (((s20 ++ (ByteArray.mk #[32])) ++ a0_1) ++ (ByteArray.mk #[32]))) + (ByteArray.size s30)) <= most) then (den Sp ref03_bigger.id [V.int .i64 n21, V.int .i64 n31] [] none).bind (fun r33 => Res.onRet r33 (fun v34 => V.asInt v34 .i64 (fun n35 => some ⟨Out.ret (V.tup [V.str ((((s20 ++ (ByteArray.mk #[32])) ++ a0_1) ++ (ByteArray.mk #[32])) ++ s30), V.int .i64 n35]), [], none⟩))) else none) else none) else none) else none)))))))))) else none)))))))))) else none) else (some ⟨Out.ret (V.tup [V.str a0_1, V.int .i64 a1]), [], none⟩)))))) := (den_eq ..).trans (by kernel_rfl)
end ref03_text
namespace ref03_side
theorem eq (a0_0 : Int) (a0_1 : ByteArray) (a0_2 : Int) (a0_3 : List (List V)) (a1 : Int) : den Sp id [V.agg [V.int .i64 a0_0, V.str a0_1, V.int .i64 a0_2, V.sl .no T_api_Expr a0_3], V.int .i64 a1] [] none =
  (bif (a0_0 == (6 : Int)) then (den Sp ref03_text.id [V.agg [V.int .i64 a0_0, V.str a0_1, V.int .i64 a0_2, V.sl .no T_api_Expr a0_3], V.int .i64 (IntKind.wrap .i64 (a1 + (1 : Int)))] [] none).bind (fun r8 => Res.onRet r8 (fun v9 => V.asTup v9 2 (fun rd10 => V.asStr (rd10 0) (fun s11 => V.asInt (rd10 1) .i64 (fun n12 => if ((2 + (ByteArray.size s11)) <= most) then (if (((ByteArray.size ((ByteArray.mk #[40, 32]) ++ s11)) + 2) <= most) then (some ⟨Out.ret (V.tup [V.str (((ByteArray.mk #[40, 32]) ++ s11) ++ (ByteArray.mk #[32, 41])), V.int .i64 n12]), [], none⟩) else none) else none))))) else (den Sp ref03_text.id [V.agg [V.int .i64 a0_0, V.str a0_1, V.int .i64 a0_2, V.sl .no T_api_Expr a0_3], V.int .i64 a1] [] none).bind (fun r8 => Res.onRet r8 (fun v9 => V.asTup v9 2 (fun rd10 => V.asStr (rd10 0) (fun s11 => V.asInt (rd10 1) .i64 (fun n12 => some ⟨Out.ret (V.tup [V.str s11, V.int .i64 n12]), [], none⟩)))))) := (den_eq ..).trans (by kernel_rfl)
end ref03_side
namespace ref03_bigger
theorem eq (a0 a1 : Int) : den Sp id [V.int .i64 a0, V.int .i64 a1] [] none =
  (bif (decide (a0 > a1)) then (some ⟨Out.ret (V.int .i64 a0), [], none⟩) else (some ⟨Out.ret (V.int .i64 a1), [], none⟩)) := (den_eq ..).trans (by kernel_rfl)
end ref03_bigger
namespace ref03_PrintExpr
theorem eq (a0_0 : Int) (a0_1 : ByteArray) (a0_2 : Int) (a0_3 : List (List V)) : den Sp id [V.agg [V.int .i64 a0_0, V.str a0_1, V.int .i64 a0_2, V.sl .no T_api_Expr a0_3]] [] none =
  (den Sp ref03_RightExpr.id [V.agg [V.int .i64 a0_0, V.str a0_1, V.int .i64 a0_2, V.sl .no T_api_Expr a0_3]] [] none).bind (fun r6 => Res.onRet r6 (fun v7 => V.asBool v7 (fun b8 => bif (!b8) then (some ⟨Out.ret (V.tup [V.str (ByteArray.mk #[]), V.int .i64 (32 : Int)]), [], none⟩) else (den Sp ref03_text.id [V.agg [V.int .i64 a0_0, V.str a0_1, V.int .i64 a0_2, V.sl .no T_api_Expr a0_3], V.int .i64 (1 : Int)] [] none).bind (fun r10 => Res.onRet r10 (fun v11 => V.asTup v11 2 (fun rd12 => V.asStr (rd12 0) (fun s13 => V.asInt (rd12 1) .i64 (fun n14 => bif (decide (n14 > (60 : Int))) then (some ⟨Out.ret (V.tup [V.str (ByteArray.mk #[]), V.int .i64 (31 : Int)]), [], none⟩) else (some ⟨Out.ret (V.tup [V.str s13, V.int .i64 (0 : Int)]), [], none⟩))))))))) := (den_eq ..).trans (by kernel_rfl)
end ref03_PrintExpr
namespace ref03_Tight
noncomputable abbrev e (p : List Nat) := ev Sp (den Sp) id Tryz.f111.ntmps (cAt (bodyOf Tryz.f111) p)
noncomputable abbrev cn (n0 : List Nat) := canon Sp id n0
noncomputable abbrev K : K := kFin Sp (den Sp) Tryz.f111 0
noncomputable def L1_1_0_1_0 (s0 : ByteArray) : Option Res := LP (e [1, 1, 0, 1, 0, 0]) (cn []) (kBlk 0 (kSeq (e [1, 1, 1]) (K))) ([(0, (V.str s0)), (3, (V.sl .no T_L_string [[V.sl .no T_string [[V.str (ByteArray.mk #[124, 124])]]], [V.sl .no T_string [[V.str (ByteArray.mk #[38, 38])]]], [V.sl .no T_string [[V.str (ByteArray.mk #[61, 61])], [V.str (ByteArray.mk #[33, 61])], [V.str (ByteArray.mk #[60])], [V.str (ByteArray.mk #[60, 61])]]], [V.sl .no T_string [[V.str (ByteArray.mk #[43])], [V.str (ByteArray.mk #[45])]]], [V.sl .no T_string [[V.str (ByteArray.mk #[42])], [V.str (ByteArray.mk #[47])], [V.str (ByteArray.mk #[37])]]]])), (4, (V.int .i64 (0 : Int))), (5, V.undef)], ⟨[], [], [], [], none⟩)
noncomputable def L1_1_0_1_0_0_1_0_0_1_0 (s0 : ByteArray) (i1 i2 : Int) : Option Res := LP (e [1, 1, 0, 1, 0, 0, 1, 0, 0, 1, 0, 0]) (cn []) (kBlk 2 (kBlk 1 (kSeq (e [1, 1, 0, 1, 0, 0, 1, 1]) (kLp (e [1, 1, 0, 1, 0, 0]) (cn []) (kBlk 0 (kSeq (e [1, 1, 1]) (K))))))) ([(0, (V.str s0)), (3, (V.sl .no T_L_string [[V.sl .no T_string [[V.str (ByteArray.mk #[124, 124])]]], [V.sl .no T_string [[V.str (ByteArray.mk #[38, 38])]]], [V.sl .no T_string [[V.str (ByteArray.mk #[61, 61])], [V.str (ByteArray.mk #[33, 61])], [V.str (ByteArray.mk #[60])], [V.str (ByteArray.mk #[60, 61])]]], [V.sl .no T_string [[V.str (ByteArray.mk #[43])], [V.str (ByteArray.mk #[45])]]], [V.sl .no T_string [[V.str (ByteArray.mk #[42])], [V.str (ByteArray.mk #[47])], [V.str (ByteArray.mk #[37])]]]])), (4, (V.int .i64 i1)), (5, (V.int .i64 i2))], ⟨[], [], [], [], none⟩)
noncomputable def L1_1_0_1_0v1 (s0 : ByteArray) (i1 i2 : Int) : Option Res := LP (e [1, 1, 0, 1, 0, 0]) (cn []) (kBlk 0 (kSeq (e [1, 1, 1]) (K))) ([(0, (V.str s0)), (3, (V.sl .no T_L_string [[V.sl .no T_string [[V.str (ByteArray.mk #[124, 124])]]], [V.sl .no T_string [[V.str (ByteArray.mk #[38, 38])]]], [V.sl .no T_string [[V.str (ByteArray.mk #[61, 61])], [V.str (ByteArray.mk #[33, 61])], [V.str (ByteArray.mk #[60])], [V.str (ByteArray.mk #[60, 61])]]], [V.sl .no T_string [[V.str (ByteArray.mk #[43])], [V.str (ByteArray.mk #[45])]]], [V.sl .no T_string [[V.str (ByteArray.mk #[42])], [V.str (ByteArray.mk #[47])], [V.str (ByteArray.mk #[37])]]]])), (4, (V.int .i64 i1)), (5, (V.int .i64 i2))], ⟨[], [], [], [], none⟩)
theorem L1_1_0_1_0_eq (s0 : ByteArray) : L1_1_0_1_0 s0 =
  (L1_1_0_1_0_0_1_0_0_1_0 s0 (0 : Int) (0 : Int)) := (LP_eq ..).trans (by kernel_rfl)
theorem L1_1_0_1_0_0_1_0_0_1_0_eq (s0 : ByteArray) (i1 i2 : Int) : L1_1_0_1_0_0_1_0_0_1_0 s0 i1 i2 =
  (if (((0 : Int) <= i1) ∧ (i1 < ((5 : Nat) : Int))) then (V.asSl (List.getD (List.getD [[V.sl .no T_string [[V.str (ByteArray.mk #[124, 124])]]], [V.sl .no T_string [[V.str (ByteArray.mk #[38, 38])]]], [V.sl .no T_string [[V.str (ByteArray.mk #[61, 61])], [V.str (ByteArray.mk #[33, 61])], [V.str (ByteArray.mk #[60])], [V.str (ByteArray.mk #[60, 61])]]], [V.sl .no T_string [[V.str (ByteArray.mk #[43])], [V.str (ByteArray.mk #[45])]]], [V.sl .no T_string [[V.str (ByteArray.mk #[42])], [V.str (ByteArray.mk #[47])], [V.str (ByteArray.mk #[37])]]]] (Int.toNat i1) []) 0 V.undef) T_string (fun es11 => bif (decide (i2 < (es11.length : Int))) then (if (((0 : Int) <= i1) ∧ (i1 < ((5 : Nat) : Int))) then (V.asSl (List.getD (List.getD [[V.sl .no T_string [[V.str (ByteArray.mk #[124, 124])]]], [V.sl .no T_string [[V.str (ByteArray.mk #[38, 38])]]], [V.sl .no T_string [[V.str (ByteArray.mk #[61, 61])], [V.str (ByteArray.mk #[33, 61])], [V.str (ByteArray.mk #[60])], [V.str (ByteArray.mk #[60, 61])]]], [V.sl .no T_string [[V.str (ByteArray.mk #[43])], [V.str (ByteArray.mk #[45])]]], [V.sl .no T_string [[V.str (ByteArray.mk #[42])], [V.str (ByteArray.mk #[47])], [V.str (ByteArray.mk #[37])]]]] (Int.toNat i1) []) 0 V.undef) T_string (fun es13 => if (((0 : Int) <= i2) ∧ (i2 < (es13.length : Int))) then (V.asStr (List.getD (List.getD es13 (Int.toNat i2) []) 0 V.undef) (fun s14 => bif (decide (s14 = s0)) then (some ⟨Out.ret (V.int .i64 (IntKind.wrap .i64 (i1 + (1 : Int)))), [], none⟩) else (L1_1_0_1_0_0_1_0_0_1_0 s0 i1 (IntKind.wrap .i64 (i2 + (1 : Int)))))) else none)) else none) else (L1_1_0_1_0v1 s0 (IntKind.wrap .i64 (i1 + (1 : Int))) i2))) else none) := (LP_eq ..).trans (by kernel_rfl)
theorem L1_1_0_1_0v1_eq (s0 : ByteArray) (i1 i2 : Int) : L1_1_0_1_0v1 s0 i1 i2 =
  (bif (decide (i1 < ((5 : Nat) : Int))) then (L1_1_0_1_0_0_1_0_0_1_0 s0 i1 (0 : Int)) else (some ⟨Out.ret (V.int .i64 (0 : Int)), [], none⟩)) := (LP_eq ..).trans (by kernel_rfl)
theorem eq (a0 : ByteArray) : den Sp id [V.str a0] [] none =
  (L1_1_0_1_0 a0) := (den_eq ..).trans (by kernel_rfl)
end ref03_Tight
end Go.Proofs.YtmhnmelaodhemaaGreatDoor
namespace Go.Proofs.YtmhnmelaodhemaaGreatDoor
open Go Go.Proofs.Ab Go.Proofs.Px
def tightN (s : List UInt8) : Int := if s = [124, 124] then 1 else if s = [38, 38] then 2 else if s = [61, 61] ∨ s = [33, 61] ∨ s = [60] ∨ s = [60, 61] then 3 else if s = [43] ∨ s = [45] then 4 else if s = [42] ∨ s = [47] ∨ s = [37] then 5 else 0
def levels : List (List (List UInt8)) := [[[124, 124]], [[38, 38]], [[61, 61], [33, 61], [60], [60, 61]], [[43], [45]], [[42], [47], [37]]]
def tightFrom (s : List UInt8) : List (List (List UInt8)) -> Nat -> Int
 | [], _ => 0
 | r :: l, i => if s ∈ r then (i : Int) + 1 else tightFrom s l (i + 1)
theorem tightFrom_is (s : List UInt8) : tightFrom s levels 0 = tightN s := by
 unfold tightN levels
 simp only [tightFrom, List.mem_cons, List.not_mem_nil, or_false]
 rfl
theorem ref03_Tight_is (s : List UInt8) : den Sp ref03_Tight.id [.str (B s)] [] none = some ⟨.ret (.int .i64 (tightN s)), [], none⟩ := by
 rw [ref03_Tight.eq, ref03_Tight.L1_1_0_1_0_eq, <- tightFrom_is]
 have hlv : levels.length = 5 := rfl
 have row : ∀ (i : Nat) (hi : i < levels.length) (j : Nat), j <= levels[i].length -> ref03_Tight.L1_1_0_1_0_0_1_0_0_1_0 (B s) (i : Int) (j : Int) = if s ∈ levels[i].drop j then some ⟨.ret (.int .i64 ((i : Int) + 1)), [], none⟩ else ref03_Tight.L1_1_0_1_0v1 (B s) ((i + 1 : Nat) : Int) (levels[i].length : Int) := by
  intro i hi
  have hlen : levels[i].length < 10 := (by decide : ∀ r ∈ levels, r.length < 10) _ (List.getElem_mem hi)
  have tb : ∀ k : List (List V) -> Option Res, V.asSl (List.getD (List.getD (levels.map fun r => [V.sl Tok.no T_string (sv r)]) i []) 0 V.undef) T_string k = k (sv levels[i]) := fun k => by
   rw [map_at _ _ _ hi]
   exact asSl_sl ..
  refine down ?_ fun j hj ih => ?_
  ·rw [ref03_Tight.L1_1_0_1_0_0_1_0_0_1_0_eq, if_pos (in_row (show i < 5 from hi)), Int.toNat_natCast]
   refine (tb _).trans ?_
   rw [sv_len, decide_eq_false (Int.lt_irrefl _), cond_false, List.drop_length, if_neg List.not_mem_nil, wrap_nat (by omega)]
  ·rw [ref03_Tight.L1_1_0_1_0_0_1_0_0_1_0_eq, if_pos (in_row (show i < 5 from hi)), Int.toNat_natCast]
   refine (tb _).trans ?_
   rw [sv_len, decide_eq_true (show (j : Int) < (levels[i].length : Int) by omega), cond_true, if_pos (in_row (show i < 5 from hi))]
   refine (tb _).trans ?_
   have hm : (s ∈ levels[i].drop j) = (s = levels[i][j] ∨ s ∈ levels[i].drop (j + 1)) := by rw [List.drop_eq_getElem_cons hj, List.mem_cons]
   rw [sv_len, if_pos (in_row hj), Int.toNat_natCast, sv_at _ _ hj, asStr_str, wrap_nat (i := i) (by omega), wrap_nat (i := j) (by omega), ih, B_dec]
   by_cases h : s = levels[i][j]
   ·rw [if_pos (show s ∈ levels[i].drop j by rw [hm]; exact .inl h), decide_eq_true (show levels[i][j] = s from h.symm)]; rfl
   ·rw [decide_eq_false (fun h2 => h h2.symm), cond_false]
    by_cases h3 : s ∈ levels[i].drop (j + 1)
    ·rw [if_pos h3, if_pos (show s ∈ levels[i].drop j by rw [hm]; exact .inr h3)]
    ·rw [if_neg h3, if_neg (show ¬ s ∈ levels[i].drop j by rw [hm]; exact fun h4 => h4.elim h h3)]
 have key : ∀ i : Nat, i <= 5 -> ∀ j : Int, ref03_Tight.L1_1_0_1_0v1 (B s) (i : Int) j = some ⟨.ret (.int .i64 (tightFrom s (levels.drop i) i)), [], none⟩ := by
  refine down (fun j => ?_) fun i hi ih j => ?_
  ·rw [ref03_Tight.L1_1_0_1_0v1_eq]; rfl
  ·have h0 := row i hi 0 (Nat.zero_le _)
   rw [ref03_Tight.L1_1_0_1_0v1_eq, decide_eq_true (show (i : Int) < ((5 : Nat) : Int) by omega), cond_true]
   refine h0.trans ?_
   rw [ih, List.drop_zero, List.drop_eq_getElem_cons (show i < levels.length from hi), tightFrom]
   have e : levels[i]'hi = levels[i]'(show i < levels.length from hi) := rfl
   by_cases h : s ∈ levels[i]'hi
   ·rw [if_pos h]; exact (congrArg (fun x => some (Res.mk (.ret (.int .i64 x)) [] none)) (if_pos h)).symm
   ·rw [if_neg h]; exact (congrArg (fun x => some (Res.mk (.ret (.int .i64 x)) [] none)) (if_neg h)).symm
 have h0 := row 0 (by decide) 0 (Nat.zero_le _)
 refine h0.trans ?_
 rw [key 1 (by omega)]
 show (_ : Option Res) = some ⟨.ret (.int .i64 (tightFrom s ([[124, 124]] :: levels.drop 1) 0)), [], none⟩
 rw [tightFrom]
 by_cases h : s ∈ [([124, 124] : List UInt8)]
 ·exact (if_pos h).trans (congrArg (fun x => some (Res.mk (.ret (.int .i64 x)) [] none)) (if_pos h)).symm
 ·exact (if_neg h).trans (congrArg (fun x => some (Res.mk (.ret (.int .i64 x)) [] none)) (if_neg h)).symm
theorem level_tight (s : List UInt8) : tightN s = levelP s := by
 unfold levelP tightN
 by_cases h1 : s = [124, 124]
 ·subst h1; rfl
 by_cases h2 : s = [38, 38]
 ·subst h2; rfl
 by_cases h3 : s = [61, 61]
 ·subst h3; rfl
 by_cases h4 : s = [33, 61]
 ·subst h4; rfl
 by_cases h5 : s = [60]
 ·subst h5; rfl
 by_cases h6 : s = [60, 61]
 ·subst h6; rfl
 by_cases h7 : s = [43]
 ·subst h7; rfl
 by_cases h8 : s = [45]
 ·subst h8; rfl
 by_cases h9 : s = [42]
 ·subst h9; rfl
 by_cases h10 : s = [47]
 ·subst h10; rfl
 by_cases h11 : s = [37]
 ·subst h11; rfl
 simp [h1, h2, h3, h4, h5, h6, h7, h8, h9, h10, h11]
theorem okXs_drop {l : List Ex} {i : Nat} (h : i < l.length) : okXs (l.drop i) = (okX l[i] && okXs (l.drop (i + 1))) := by
 rw [List.drop_eq_getElem_cons h, okXs]
def kidsK (k : Int) : Int := if k = 4 then 1 else if k = 5 then 1 else if k = 6 then 2 else 0
def passK (b0 b1 b2 : Bool) (s : List UInt8) (m : Int) : Bool := (b0 && isName (B s) && decide (m = 0)) || (b1 && decide (m = 0)) || (b2 && decide (s = []))
theorem RightExpr_is : ∀ x : Ex, ExOk x -> den Sp ref03_RightExpr.id [.agg x.v] [] none = some ⟨.ret (.bool (okX x)), [], none⟩ := by
 refine Ex.ind fun k s m l ih ho => ?_
 obtain ⟨_, on, om, ol, oh⟩ := ho.inv
 have two : ∀ (b0 b1 b2 : Bool) (i : Nat), i <= l.length -> ref03_RightExpr.L1_1_1_1_1_1_1_1_0_1_0 b0 b1 b2 (i : Int) k (B s) m (l.map Ex.v) = some ⟨.ret (.bool (okXs (l.drop i) && decide (l.length = 2))), [], none⟩ := by
  intro b0 b1 b2
  refine down ?_ fun i hi ihi => ?_
  ·rw [ref03_RightExpr.L1_1_1_1_1_1_1_1_0_1_0_eq]; simp [okXs]; omega
  ·have hx := ih _ (List.getElem_mem hi) (oh _ (List.getElem_mem hi))
   rw [ref03_RightExpr.L1_1_1_1_1_1_1_1_0_1_0_eq, okXs_drop hi]
   simp only [Int.natCast_add, Int.natCast_one] at ihi
   cases c : okX l[i] <;> simp (disch := omega) [hi, hx, c, ihi, wrap_in]
 have any : ∀ (b0 b1 b2 : Bool) (n : Int) (i : Nat), i <= l.length -> ref03_RightExpr.L1_1_1_1_1_1_1_1_0_1_0v1 b0 b1 b2 n (i : Int) k (B s) m (l.map Ex.v) = some ⟨.ret (.bool (okXs (l.drop i) && decide ((l.length : Int) = n))), [], none⟩ := by
  intro b0 b1 b2 n
  refine down ?_ fun i hi ihi => ?_
  ·rw [ref03_RightExpr.L1_1_1_1_1_1_1_1_0_1_0v1_eq]; simp [okXs]
  ·have hx := ih _ (List.getElem_mem hi) (oh _ (List.getElem_mem hi))
   rw [ref03_RightExpr.L1_1_1_1_1_1_1_1_0_1_0v1_eq, okXs_drop hi]
   simp only [Int.natCast_add, Int.natCast_one] at ihi
   cases c : okX l[i] <;> simp (disch := omega) [hi, hx, c, ihi, wrap_in]
 have h2 : ∀ (b0 b1 b2 : Bool), ref03_RightExpr.J1_1_1_1_1_0 b0 b1 b2 k (B s) m (l.map Ex.v) = some ⟨.ret (.bool (okXs l && decide ((l.length : Int) = kidsK k))), [], none⟩ := by
  intro b0 b1 b2
  have t0 := two b0 b1 b2 0 (Nat.zero_le _)
  have a1 := any b0 b1 b2 1 0 (Nat.zero_le _)
  have a0 := any b0 b1 b2 0 0 (Nat.zero_le _)
  simp only [List.drop_zero, Int.natCast_zero] at t0 a1 a0
  have e2 : decide ((l.length : Int) = 2) = decide (l.length = 2) := by congr 1; exact propext (by omega)
  rw [ref03_RightExpr.J1_1_1_1_1_0_eq]
  simp only [ref03_RightExpr.J1_1_1_1_1_1_1_0_0_eq]
  unfold kidsK
  by_cases c4 : k = 4
  ·subst c4; simp [a1]
  by_cases c5 : k = 5
  ·subst c5; simp [a1]
  by_cases c6 : k = 6
  ·subst c6; simp [t0, e2]
  simp [c4, c5, c6, a0]
 have hn := ref02_IsName_is (B s) (by rw [B_size]; omega)
 have h3 : ∀ (b0 b1 b2 : Bool), ref03_RightExpr.J1_1_1_1_0_0 b0 b1 b2 k (B s) m (l.map Ex.v) = some ⟨.ret (.bool (passK b0 b1 b2 s m && okXs l && decide ((l.length : Int) = kidsK k))), [], none⟩ := by
  intro b0 b1 b2
  rw [ref03_RightExpr.J1_1_1_1_0_0_eq]
  simp only [ref03_RightExpr.J1_1_1_1_0_1_0_0_eq, h2, hn]
  unfold passK
  cases b0 <;> cases b1 <;> cases b2 <;> cases isName (B s) <;> by_cases cm : m = 0 <;> by_cases cs : s = [] <;> simp [cm, cs]
 have h4 : ∀ (b0 b1 : Bool), ref03_RightExpr.J1_1_1_0 b0 b1 k (B s) m (l.map Ex.v) = some ⟨.ret (.bool (passK b0 b1 (decide (k = 1 ∧ 0 <= m) || decide (k = 2 ∧ (m = 0 ∨ m = 1))) s m && okXs l && decide ((l.length : Int) = kidsK k))), [], none⟩ := by
  intro b0 b1
  rw [ref03_RightExpr.J1_1_1_0_eq]
  simp only [h3]
  by_cases c1 : k = 1
  ·subst c1; by_cases cm : 0 <= m <;> simp [cm]
  by_cases c2 : k = 2
  ·subst c2; by_cases cm : m = 0 <;> by_cases cn : m = 1 <;> simp [cm, cn]
  simp [c1, c2]
 rw [Ex.v_mk, ref03_RightExpr.eq, okX]
 simp only [h4, ref03_Tight_is, level_tight]
 have hnil : isName (B []) = false := by decide
 unfold passK plainK namedK kidsK
 by_cases c1 : k = 1
 ·subst c1; by_cases cm : 0 <= m <;> by_cases cs : s = [] <;> cases okXs l <;> simp [cm, cs]
 by_cases c2 : k = 2
 ·subst c2; by_cases cm : m = 0 <;> by_cases cn : m = 1 <;> by_cases cs : s = [] <;> cases okXs l <;> simp [cm, cn, cs]
 by_cases c3 : k = 3
 ·subst c3
  by_cases cs : s = []
  ·subst cs; simp [hnil]
  ·by_cases cm : m = 0 <;> cases isName (B s) <;> cases okXs l <;> simp [cm, cs]
 by_cases c4 : k = 4
 ·subst c4
  by_cases cs : s = []
  ·subst cs; simp [hnil]
  ·by_cases cm : m = 0 <;> cases isName (B s) <;> cases okXs l <;> simp [cm, cs] <;> omega
 by_cases c5 : k = 5
 ·subst c5
  by_cases g1 : s = [45] <;> by_cases g2 : s = [33] <;> by_cases cm : m = 0 <;> cases okXs l <;> simp [cm, g1, g2] <;> omega
 by_cases c6 : k = 6
 ·subst c6
  by_cases g1 : 0 < levelP s <;> by_cases cm : m = 0 <;> cases okXs l <;> simp [cm, g1] <;> omega
 simp [c1, c2, c3, c4, c5, c6]
theorem bigger_is (a b : Int) : den Sp ref03_bigger.id [.int .i64 a, .int .i64 b] [] none = some ⟨.ret (.int .i64 (max a b)), [], none⟩ := by
 rw [ref03_bigger.eq]
 by_cases h : b < a
 ·simp [h]; omega
 ·simp [h]; omega
def WrT (f : Nat) (x : Ex) (w : List (List UInt8)) (h : Int) (e : Int) : Prop :=
 ∀ t : Int, 0 <= t -> t + 4 * (x.size : Int) + e <= 1099511627776 -> den Sp f [.agg x.v, .int .i64 t] [] none = some ⟨.ret (.tup [.str (B (joinL w)), .int .i64 (t + h)]), [], none⟩
theorem side_of (x : Ex) (ok : okX x = true) (hs : x.size <= 1000000000) (hT : WrT ref03_text.id x (exW x) (hX x) 0) : WrT ref03_side.id x (sideW x.kind (exW x)) (sideH x.kind (hX x)) 1 := by
 intro t ht ht2
 have hw := (okX_weigh x ok).1
 have hl := joinL_len (exW x)
 have hp := Ex.size_pos x
 have e0 := Ex.v_is x
 have w1 : IntKind.wrap .i64 (t + 1) = t + 1 := wrap_in (by omega) (by omega)
 rw [e0, ref03_side.eq, <- e0]
 unfold sideW sideH
 by_cases hk : x.kind = 6
 ·have h1 := hT (t + 1) (by omega) (by omega)
  rw [if_pos hk, if_pos hk, joinL_cons _ (by simp), joinL_app _ (exW_ne x) (by simp)]
  simp (disch := omega) [hk, w1, h1, most_if, B_size, B_append, joinL, List.getElem?_cons_zero, List.getElem?_cons_succ]
  omega
 ·have h1 := hT t ht (by omega)
  simp [hk, h1]
theorem text_is : ∀ x : Ex, ExOk x -> okX x = true -> x.size <= 1000000000 -> WrT ref03_text.id x (exW x) (hX x) 0 := by
 refine Ex.ind fun k n m l ih ho ok hs => ?_
 intro t ht ht2
 obtain ⟨_, on, om, ol, oh⟩ := ho.inv
 rw [Ex.size] at ht2 hs
 have w1 : IntKind.wrap .i64 (t + 1) = t + 1 := wrap_in (by omega) (by omega)
 rw [okX, Bool.and_eq_true, Bool.and_eq_true] at ok
 obtain ⟨⟨h1, h2⟩, h3⟩ := ok
 rw [exW, hX, Ex.v_mk, ref03_text.eq]
 unfold wK hK
 rcases plain_forms h1 with ⟨rfl, rfl, hm, rfl⟩ | ⟨rfl, rfl, hm, rfl⟩ | ⟨rfl, hn, rfl, rfl⟩ | ⟨rfl, hn, rfl, x, rfl⟩ | ⟨rfl, hn, rfl, x, rfl⟩ | ⟨rfl, hn, rfl, x, y, rfl⟩
 ·obtain ⟨m1, m2⟩ := i64_bounds om
  simp [ref01_Text_is m m1 m2, joinL]
 ·by_cases c : m = 1
  ·subst c; simp [joinL]
  ·simp [c, joinL]
 ·simp [joinL]
 ·have hsx : Ex.sizes [x] = x.size := by simp [Ex.sizes]
  rw [okXs, okXs, Bool.and_true] at h3
  have q := ih x (by simp) (oh x (by simp)) h3 (by omega) (t + 1) (by omega) (by omega)
  have hw := (okX_weigh x h3).1
  have hl := joinL_len (exW x)
  have hj : joinL (n :: [91] :: (exW x ++ [[93]])) = n ++ [32, 91, 32] ++ joinL (exW x) ++ [32, 93] := by
   rw [joinL_cons _ (by simp), joinL_cons _ (by simp), joinL_app _ (exW_ne x) (by simp)]; simp [joinL]
  simp (disch := omega) [w1, q, exWs, hXs, hj, most_if, B_size, B_append, List.getElem?_cons_zero, List.getElem?_cons_succ]
  omega
 ·have hsx : Ex.sizes [x] = x.size := by simp [Ex.sizes]
  rw [okXs, okXs, Bool.and_true] at h3
  have q := side_of x h3 (by omega) (ih x (by simp) (oh x (by simp)) h3 (by omega)) (t + 1) (by omega) (by omega)
  have hw := (okX_weigh x h3).1
  have hl := joinL_len (sideW x.kind (exW x))
  have hv := sideW_weigh x.kind (exW x)
  have hj : joinL (n :: sideW x.kind (exW x)) = n ++ [32] ++ joinL (sideW x.kind (exW x)) := by
   rw [joinL_cons _ (sideW_ne (exW_ne x))]; simp
  simp (disch := omega) [w1, q, exWs, hXs, hj, most_if, B_size, B_append, List.getElem?_cons_zero, List.getElem?_cons_succ]
  omega
 ·have hsx : Ex.sizes [x, y] = x.size + y.size := by simp [Ex.sizes]
  rw [okXs, okXs, okXs, Bool.and_true, Bool.and_eq_true] at h3
  have q := side_of x h3.1 (by omega) (ih x (by simp) (oh x (by simp)) h3.1 (by omega)) t (by omega) (by omega)
  have r := side_of y h3.2 (by omega) (ih y (by simp) (oh y (by simp)) h3.2 (by omega)) t (by omega) (by omega)
  have hw := (okX_weigh x h3.1).1
  have hl := joinL_len (sideW x.kind (exW x))
  have hv := sideW_weigh x.kind (exW x)
  have gw := (okX_weigh y h3.2).1
  have gl := joinL_len (sideW y.kind (exW y))
  have gv := sideW_weigh y.kind (exW y)
  have hj : joinL (sideW x.kind (exW x) ++ n :: sideW y.kind (exW y)) = joinL (sideW x.kind (exW x)) ++ [32] ++ n ++ [32] ++ joinL (sideW y.kind (exW y)) := by
   rw [joinL_app _ (sideW_ne (exW_ne x)) (by simp), joinL_cons _ (sideW_ne (exW_ne y))]; simp
  simp (disch := omega) [q, r, exWs, hXs, hj, most_if, B_size, B_append, bigger_is, List.getElem?_cons_zero, List.getElem?_cons_succ]
theorem ref03_PrintExpr_is (x : Ex) (ho : ExOk x) (hs : x.size <= 1000000) : den Sp ref03_PrintExpr.id [.agg x.v] [] none = some ⟨.ret (.tup [.str (B (prX x).1), .int .i64 (prX x).2]), [], none⟩ := by
 have e0 := Ex.v_is x
 have e1 := RightExpr_is x ho
 rw [e0, ref03_PrintExpr.eq, <- e0]
 unfold prX
 cases ok : okX x with
 | false => simp [e1, ok]
 | true =>
  have e2 := text_is x ho ok (by omega) 1 (by omega) (by omega)
  by_cases c : 60 < 1 + hX x <;> simp [e1, ok, e2, c]
end Go.Proofs.YtmhnmelaodhemaaGreatDoor
namespace Go.Proofs.YtmhnmelaodhemaaGreatDoor
open Go Go.Proofs.Ab
namespace ref12_names
noncomputable abbrev e (p : List Nat) := ev Sp (den Sp) id Tryz.f39.ntmps (cAt (bodyOf Tryz.f39) p)
noncomputable abbrev cn (n0 : List Nat) := canon Sp id n0
noncomputable abbrev K : K := kFin Sp (den Sp) Tryz.f39 0
noncomputable def L1_0_1_0 (l0 : List (List V)) (i1 : Int) : Option Res := LP (e [1, 0, 1, 0, 0]) (cn []) (kBlk 0 (kSeq (e [1, 1]) (K))) ([(0, (V.sl .no T_string l0)), (3, (V.int .i64 i1))], ⟨[], [], [], [], none⟩)
theorem L1_0_1_0_eq (l0 : List (List V)) (i1 : Int) : L1_0_1_0 l0 i1 =
  (bif (decide (i1 < (l0.length : Int))) then (if (((0 : Int) <= i1) ∧ (i1 < (l0.length : Int))) then (V.asStr (List.getD (List.getD l0 (Int.toNat i1) []) 0 V.undef) (fun s7 => (den Sp ref02_IsName.id [V.str s7] [] none).bind (fun r8 => Res.onRet r8 (fun v9 => V.asBool v9 (fun b10 => bif (!b10) then (some ⟨Out.ret (V.bool false), [], none⟩) else (L1_0_1_0 l0 (IntKind.wrap .i64 (i1 + (1 : Int))))))))) else none) else (some ⟨Out.ret (V.bool true), [], none⟩)) := (LP_eq ..).trans (by kernel_rfl)
theorem eq (a0 : (List (List V))) : den Sp id [V.sl .no T_string a0] [] none =
  (L1_0_1_0 a0 (0 : Int)) := (den_eq ..).trans (by kernel_rfl)
end ref12_names
namespace ref12_Right
noncomputable abbrev e (p : List Nat) := ev Sp (den Sp) id Tryz.f14.ntmps (cAt (bodyOf Tryz.f14) p)
noncomputable abbrev cn (n0 : List Nat) := canon Sp id n0
noncomputable abbrev K : K := kFin Sp (den Sp) Tryz.f14 0
noncomputable def L1_1_0_1_0 (b0 : Bool) (i1 : Int) (l2 l3 l4 l5 l6 : List (List V)) : Option Res := LP (e [1, 1, 0, 1, 0, 0]) (cn [1001]) (kBlk 0 (kSeq (e [1, 1, 1]) (K))) ([(1, (V.ref 1001 0)), (3, (V.bool b0)), (4, (V.int .i64 i1)), (6, V.undef), (8, V.undef), (9, V.undef), (10, V.undef), (11, V.undef), (12, V.undef)], ⟨[(1001, (Blk.cells T_parallaxref12_File [V.sl .no T_api_Pair l2, V.sl .no T_api_Pair l3, V.sl .no T_parallaxref12_Keep l4, V.sl .no T_parallaxref12_Break l5, V.sl .no T_parallaxref12_Watch l6] false))], [], [], [], none⟩)
noncomputable def L1_1_1_0_1_0 (b0 : Bool) (i1 i2 : Int) (l3 l4 l5 l6 l7 : List (List V)) : Option Res := LP (e [1, 1, 1, 0, 1, 0, 0]) (cn [1001]) (kBlk 2 (kSeq (e [1, 1, 1, 1]) (K))) ([(1, (V.ref 1001 0)), (3, (V.bool b0)), (4, (V.int .i64 i1)), (6, (V.int .i64 i2)), (8, V.undef), (9, V.undef), (10, V.undef), (11, V.undef), (12, V.undef)], ⟨[(1001, (Blk.cells T_parallaxref12_File [V.sl .no T_api_Pair l3, V.sl .no T_api_Pair l4, V.sl .no T_parallaxref12_Keep l5, V.sl .no T_parallaxref12_Break l6, V.sl .no T_parallaxref12_Watch l7] false))], [], [], [], none⟩)
noncomputable def L1_1_1_1_0_1_0 (b0 : Bool) (i1 i2 i3 : Int) (l4 l5 l6 l7 l8 : List (List V)) : Option Res := LP (e [1, 1, 1, 1, 0, 1, 0, 0]) (cn [1001]) (kBlk 4 (kSeq (e [1, 1, 1, 1, 1]) (K))) ([(1, (V.ref 1001 0)), (3, (V.bool b0)), (4, (V.int .i64 i1)), (6, (V.int .i64 i2)), (8, (V.int .i64 i3)), (9, V.undef), (10, V.undef), (11, V.undef), (12, V.undef)], ⟨[(1001, (Blk.cells T_parallaxref12_File [V.sl .no T_api_Pair l4, V.sl .no T_api_Pair l5, V.sl .no T_parallaxref12_Keep l6, V.sl .no T_parallaxref12_Break l7, V.sl .no T_parallaxref12_Watch l8] false))], [], [], [], none⟩)
noncomputable def L1_1_1_1_1_0_1_0 (b0 : Bool) (i1 i2 i3 i4 : Int) (l5 l6 l7 l8 l9 : List (List V)) : Option Res := LP (e [1, 1, 1, 1, 1, 0, 1, 0, 0]) (cn [1001]) (kBlk 6 (kSeq (e [1, 1, 1, 1, 1, 1]) (K))) ([(1, (V.ref 1001 0)), (3, (V.bool b0)), (4, (V.int .i64 i1)), (6, (V.int .i64 i2)), (8, (V.int .i64 i3)), (9, (V.int .i64 i4)), (10, V.undef), (11, V.undef), (12, V.undef)], ⟨[(1001, (Blk.cells T_parallaxref12_File [V.sl .no T_api_Pair l5, V.sl .no T_api_Pair l6, V.sl .no T_parallaxref12_Keep l7, V.sl .no T_parallaxref12_Break l8, V.sl .no T_parallaxref12_Watch l9] false))], [], [], [], none⟩)
noncomputable def L1_1_1_1_1_1_0_1_0 (b0 : Bool) (i1 i2 i3 i4 : Int) (l5 l6 l7 l8 l9 : List (List V)) : Option Res := LP (e [1, 1, 1, 1, 1, 1, 0, 1, 0, 0]) (cn [1001]) (kBlk 8 (kSeq (e [1, 1, 1, 1, 1, 1, 1]) (K))) ([(1, (V.ref 1001 0)), (3, (V.bool b0)), (4, (V.int .i64 i1)), (6, (V.int .i64 i2)), (8, (V.int .i64 i3)), (9, (V.int .i64 i4)), (10, (V.int .i64 (0 : Int))), (11, V.undef), (12, V.undef)], ⟨[(1001, (Blk.cells T_parallaxref12_File [V.sl .no T_api_Pair l5, V.sl .no T_api_Pair l6, V.sl .no T_parallaxref12_Keep l7, V.sl .no T_parallaxref12_Break l8, V.sl .no T_parallaxref12_Watch l9] false))], [], [], [], none⟩)
noncomputable def L1_1_1_1_1_1_0_1_0_0_1_0_0_1_1_1_0 (b0 : Bool) (i1 i2 i3 i4 i5 i6 : Int) (l7 l8 l9 l10 l11 : List (List V)) (i12 : Int) (s13 : ByteArray) (i14 : Int) (l15 : List (List V)) : Option Res := LP (e [1, 1, 1, 1, 1, 1, 0, 1, 0, 0, 1, 0, 0, 1, 1, 1, 0, 0]) (cn [1001, 1011]) (kBlk 10 (kBlk 9 (kSeq (e [1, 1, 1, 1, 1, 1, 0, 1, 0, 0, 1, 1]) (kLp (e [1, 1, 1, 1, 1, 1, 0, 1, 0, 0]) (cn [1001]) (kBlk 8 (kSeq (e [1, 1, 1, 1, 1, 1, 1]) (K))))))) ([(1, (V.ref 1001 0)), (3, (V.bool b0)), (4, (V.int .i64 i1)), (6, (V.int .i64 i2)), (8, (V.int .i64 i3)), (9, (V.int .i64 i4)), (10, (V.int .i64 i5)), (11, (V.ref 1011 0)), (12, (V.int .i64 i6))], ⟨[(1001, (Blk.cells T_parallaxref12_File [V.sl .no T_api_Pair l7, V.sl .no T_api_Pair l8, V.sl .no T_parallaxref12_Keep l9, V.sl .no T_parallaxref12_Break l10, V.sl .no T_parallaxref12_Watch l11] false)), (1011, (Blk.cells T_parallaxref12_Break [V.int .i64 i12, V.str s13, V.int .i64 i14, V.sl .no T_api_Expr l15] false))], [], [], [], none⟩)
noncomputable def L1_1_1_1_1_1_0_1_0v1 (b0 : Bool) (i1 i2 i3 i4 i5 i6 : Int) (l7 l8 l9 l10 l11 : List (List V)) : Option Res := LP (e [1, 1, 1, 1, 1, 1, 0, 1, 0, 0]) (cn [1001]) (kBlk 8 (kSeq (e [1, 1, 1, 1, 1, 1, 1]) (K))) ([(1, (V.ref 1001 0)), (3, (V.bool b0)), (4, (V.int .i64 i1)), (6, (V.int .i64 i2)), (8, (V.int .i64 i3)), (9, (V.int .i64 i4)), (10, (V.int .i64 i5)), (11, V.undef), (12, (V.int .i64 i6))], ⟨[(1001, (Blk.cells T_parallaxref12_File [V.sl .no T_api_Pair l7, V.sl .no T_api_Pair l8, V.sl .no T_parallaxref12_Keep l9, V.sl .no T_parallaxref12_Break l10, V.sl .no T_parallaxref12_Watch l11] false))], [], [], [], none⟩)
theorem L1_1_0_1_0_eq (b0 : Bool) (i1 : Int) (l2 l3 l4 l5 l6 : List (List V)) : L1_1_0_1_0 b0 i1 l2 l3 l4 l5 l6 =
  (bif (decide (i1 < (l2.length : Int))) then (if (((0 : Int) <= i1) ∧ (i1 < (l2.length : Int))) then (V.asStr (List.getD (List.getD l2 (Int.toNat i1) []) 0 V.undef) (fun s17 => V.asStr (List.getD (List.getD l2 (Int.toNat i1) []) 1 V.undef) (fun s18 => V.asStr (List.getD (List.getD l2 (Int.toNat i1) []) 2 V.undef) (fun s19 => V.asStr (List.getD (List.getD l2 (Int.toNat i1) []) 3 V.undef) (fun s20 => bif b0 then (den Sp ref12_names.id [V.sl .no T_string [[V.str s17], [V.str s18]]] [] none).bind (fun r22 => Res.onRet r22 (fun v23 => V.asBool v23 (fun b24 => bif b24 then (bif (decide (s19 = (ByteArray.mk #[]))) then (L1_1_0_1_0 (decide (s20 = (ByteArray.mk #[]))) (IntKind.wrap .i64 (i1 + (1 : Int))) l2 l3 l4 l5 l6) else (L1_1_0_1_0 false (IntKind.wrap .i64 (i1 + (1 : Int))) l2 l3 l4 l5 l6)) else (L1_1_0_1_0 false (IntKind.wrap .i64 (i1 + (1 : Int))) l2 l3 l4 l5 l6)))) else (L1_1_0_1_0 false (IntKind.wrap .i64 (i1 + (1 : Int))) l2 l3 l4 l5 l6)))))) else none) else (L1_1_1_0_1_0 b0 i1 (0 : Int) l2 l3 l4 l5 l6)) := (LP_eq ..).trans (by kernel_rfl)
theorem L1_1_1_0_1_0_eq (b0 : Bool) (i1 i2 : Int) (l3 l4 l5 l6 l7 : List (List V)) : L1_1_1_0_1_0 b0 i1 i2 l3 l4 l5 l6 l7 =
  (bif (decide (i2 < (l4.length : Int))) then (if (((0 : Int) <= i2) ∧ (i2 < (l4.length : Int))) then (V.asStr (List.getD (List.getD l4 (Int.toNat i2) []) 0 V.undef) (fun s27 => V.asStr (List.getD (List.getD l4 (Int.toNat i2) []) 1 V.undef) (fun s28 => V.asStr (List.getD (List.getD l4 (Int.toNat i2) []) 2 V.undef) (fun s29 => V.asStr (List.getD (List.getD l4 (Int.toNat i2) []) 3 V.undef) (fun s30 => bif b0 then (den Sp ref12_names.id [V.sl .no T_string [[V.str s27], [V.str s28], [V.str s29], [V.str s30]]] [] none).bind (fun r32 => Res.onRet r32 (fun v33 => V.asBool v33 (fun b34 => L1_1_1_0_1_0 b34 i1 (IntKind.wrap .i64 (i2 + (1 : Int))) l3 l4 l5 l6 l7))) else (L1_1_1_0_1_0 false i1 (IntKind.wrap .i64 (i2 + (1 : Int))) l3 l4 l5 l6 l7)))))) else none) else (L1_1_1_1_0_1_0 b0 i1 i2 (0 : Int) l3 l4 l5 l6 l7)) := (LP_eq ..).trans (by kernel_rfl)
theorem L1_1_1_1_0_1_0_eq (b0 : Bool) (i1 i2 i3 : Int) (l4 l5 l6 l7 l8 : List (List V)) : L1_1_1_1_0_1_0 b0 i1 i2 i3 l4 l5 l6 l7 l8 =
  (bif (decide (i3 < (l6.length : Int))) then (bif b0 then (if (((0 : Int) <= i3) ∧ (i3 < (l6.length : Int))) then (V.asStr (List.getD (List.getD l6 (Int.toNat i3) []) 1 V.undef) (fun s38 => if (((0 : Int) <= i3) ∧ (i3 < (l6.length : Int))) then (V.asStr (List.getD (List.getD l6 (Int.toNat i3) []) 2 V.undef) (fun s39 => (den Sp ref12_names.id [V.sl .no T_string [[V.str s38], [V.str s39]]] [] none).bind (fun r40 => Res.onRet r40 (fun v41 => V.asBool v41 (fun b42 => bif b42 then (if (((0 : Int) <= i3) ∧ (i3 < (l6.length : Int))) then (V.asInt (List.getD (List.getD l6 (Int.toNat i3) []) 0 V.undef) .i64 (fun n43 => bif (n43 == (0 : Int)) then (L1_1_1_1_0_1_0 true i1 i2 (IntKind.wrap .i64 (i3 + (1 : Int))) l4 l5 l6 l7 l8) else (if (((0 : Int) <= i3) ∧ (i3 < (l6.length : Int))) then (V.asInt (List.getD (List.getD l6 (Int.toNat i3) []) 0 V.undef) .i64 (fun n44 => L1_1_1_1_0_1_0 (n44 == (1 : Int)) i1 i2 (IntKind.wrap .i64 (i3 + (1 : Int))) l4 l5 l6 l7 l8)) else none))) else none) else (L1_1_1_1_0_1_0 false i1 i2 (IntKind.wrap .i64 (i3 + (1 : Int))) l4 l5 l6 l7 l8)))))) else none)) else none) else (L1_1_1_1_0_1_0 false i1 i2 (IntKind.wrap .i64 (i3 + (1 : Int))) l4 l5 l6 l7 l8)) else (L1_1_1_1_1_0_1_0 b0 i1 i2 i3 (0 : Int) l4 l5 l6 l7 l8)) := (LP_eq ..).trans (by kernel_rfl)
theorem L1_1_1_1_1_0_1_0_eq (b0 : Bool) (i1 i2 i3 i4 : Int) (l5 l6 l7 l8 l9 : List (List V)) : L1_1_1_1_1_0_1_0 b0 i1 i2 i3 i4 l5 l6 l7 l8 l9 =
  (bif (decide (i4 < (l9.length : Int))) then (bif b0 then (if (((0 : Int) <= i4) ∧ (i4 < (l9.length : Int))) then (V.asStr (List.getD (List.getD l9 (Int.toNat i4) []) 1 V.undef) (fun s50 => if (((0 : Int) <= i4) ∧ (i4 < (l9.length : Int))) then (V.asStr (List.getD (List.getD l9 (Int.toNat i4) []) 2 V.undef) (fun s51 => (den Sp ref12_names.id [V.sl .no T_string [[V.str s50], [V.str s51]]] [] none).bind (fun r52 => Res.onRet r52 (fun v53 => V.asBool v53 (fun b54 => bif b54 then (if (((0 : Int) <= i4) ∧ (i4 < (l9.length : Int))) then (V.asInt (List.getD (List.getD l9 (Int.toNat i4) []) 0 V.undef) .i64 (fun n55 => bif (n55 == (0 : Int)) then (L1_1_1_1_1_0_1_0 true i1 i2 i3 (IntKind.wrap .i64 (i4 + (1 : Int))) l5 l6 l7 l8 l9) else (if (((0 : Int) <= i4) ∧ (i4 < (l9.length : Int))) then (V.asInt (List.getD (List.getD l9 (Int.toNat i4) []) 0 V.undef) .i64 (fun n56 => L1_1_1_1_1_0_1_0 (n56 == (1 : Int)) i1 i2 i3 (IntKind.wrap .i64 (i4 + (1 : Int))) l5 l6 l7 l8 l9)) else none))) else none) else (L1_1_1_1_1_0_1_0 false i1 i2 i3 (IntKind.wrap .i64 (i4 + (1 : Int))) l5 l6 l7 l8 l9)))))) else none)) else none) else (L1_1_1_1_1_0_1_0 false i1 i2 i3 (IntKind.wrap .i64 (i4 + (1 : Int))) l5 l6 l7 l8 l9)) else (L1_1_1_1_1_1_0_1_0 b0 i1 i2 i3 i4 l5 l6 l7 l8 l9)) := (LP_eq ..).trans (by kernel_rfl)
theorem L1_1_1_1_1_1_0_1_0_eq (b0 : Bool) (i1 i2 i3 i4 : Int) (l5 l6 l7 l8 l9 : List (List V)) : L1_1_1_1_1_1_0_1_0 b0 i1 i2 i3 i4 l5 l6 l7 l8 l9 =
  (bif (decide ((0 : Int) < (l8.length : Int))) then (if (((0 : Int) <= (0 : Int)) ∧ ((0 : Int) < (l8.length : Int))) then (V.asInt (List.getD (List.getD l8 0 []) 0 V.undef) .i64 (fun n62 => V.asStr (List.getD (List.getD l8 0 []) 1 V.undef) (fun s63 => V.asInt (List.getD (List.getD l8 0 []) 2 V.undef) .i64 (fun n64 => V.asSl (List.getD (List.getD l8 0 []) 3 V.undef) T_api_Expr (fun es65 => bif b0 then (den Sp ref12_names.id [V.sl .no T_string [[V.str s63]]] [] none).bind (fun r67 => Res.onRet r67 (fun v68 => V.asBool v68 (fun b69 => bif b69 then (bif (n62 == (0 : Int)) then (bif (decide (n64 >= (0 : Int))) then (L1_1_1_1_1_1_0_1_0_0_1_0_0_1_1_1_0 (decide ((es65.length : Int) < (2 : Int))) i1 i2 i3 i4 (0 : Int) (0 : Int) l5 l6 l7 l8 l9 n62 s63 n64 es65) else (L1_1_1_1_1_1_0_1_0_0_1_0_0_1_1_1_0 false i1 i2 i3 i4 (0 : Int) (0 : Int) l5 l6 l7 l8 l9 n62 s63 n64 es65)) else (bif (n62 == (1 : Int)) then (bif (decide (n64 >= (0 : Int))) then (L1_1_1_1_1_1_0_1_0_0_1_0_0_1_1_1_0 (decide ((es65.length : Int) < (2 : Int))) i1 i2 i3 i4 (0 : Int) (0 : Int) l5 l6 l7 l8 l9 n62 s63 n64 es65) else (L1_1_1_1_1_1_0_1_0_0_1_0_0_1_1_1_0 false i1 i2 i3 i4 (0 : Int) (0 : Int) l5 l6 l7 l8 l9 n62 s63 n64 es65)) else (L1_1_1_1_1_1_0_1_0_0_1_0_0_1_1_1_0 false i1 i2 i3 i4 (0 : Int) (0 : Int) l5 l6 l7 l8 l9 n62 s63 n64 es65))) else (L1_1_1_1_1_1_0_1_0_0_1_0_0_1_1_1_0 false i1 i2 i3 i4 (0 : Int) (0 : Int) l5 l6 l7 l8 l9 n62 s63 n64 es65)))) else (L1_1_1_1_1_1_0_1_0_0_1_0_0_1_1_1_0 false i1 i2 i3 i4 (0 : Int) (0 : Int) l5 l6 l7 l8 l9 n62 s63 n64 es65)))))) else none) else (some ⟨Out.ret (V.bool b0), [], none⟩)) := (LP_eq ..).trans (by kernel_rfl)
theorem L1_1_1_1_1_1_0_1_0_0_1_0_0_1_1_1_0_eq (b0 : Bool) (i1 i2 i3 i4 i5 i6 : Int) (l7 l8 l9 l10 l11 : List (List V)) (i12 : Int) (s13 : ByteArray) (i14 : Int) (l15 : List (List V)) : L1_1_1_1_1_1_0_1_0_0_1_0_0_1_1_1_0 b0 i1 i2 i3 i4 i5 i6 l7 l8 l9 l10 l11 i12 s13 i14 l15 =
  (bif (decide (i6 < (l15.length : Int))) then (if (((0 : Int) <= i6) ∧ (i6 < (l15.length : Int))) then (V.asInt (List.getD (List.getD l15 (Int.toNat i6) []) 0 V.undef) .i64 (fun n89 => V.asStr (List.getD (List.getD l15 (Int.toNat i6) []) 1 V.undef) (fun s90 => V.asInt (List.getD (List.getD l15 (Int.toNat i6) []) 2 V.undef) .i64 (fun n91 => V.asSl (List.getD (List.getD l15 (Int.toNat i6) []) 3 V.undef) T_api_Expr (fun es92 => (den Sp ref03_PrintExpr.id [V.agg [V.int .i64 n89, V.str s90, V.int .i64 n91, V.sl .no T_api_Expr es92]] [] none).bind (fun r93 => Res.onRet r93 (fun v94 => V.asTup v94 2 (fun rd95 => V.asStr (rd95 0) (fun s96 => V.asInt (rd95 1) .i64 (fun n97 => bif b0 then (L1_1_1_1_1_1_0_1_0_0_1_0_0_1_1_1_0 (n97 == (0 : Int)) i1 i2 i3 i4 i5 (IntKind.wrap .i64 (i6 + (1 : Int))) l7 l8 l9 l10 l11 i12 s13 i14 l15) else (L1_1_1_1_1_1_0_1_0_0_1_0_0_1_1_1_0 false i1 i2 i3 i4 i5 (IntKind.wrap .i64 (i6 + (1 : Int))) l7 l8 l9 l10 l11 i12 s13 i14 l15))))))))))) else none) else (L1_1_1_1_1_1_0_1_0v1 b0 i1 i2 i3 i4 (IntKind.wrap .i64 (i5 + (1 : Int))) i6 l7 l8 l9 l10 l11)) := (LP_eq ..).trans (by kernel_rfl)
theorem L1_1_1_1_1_1_0_1_0v1_eq (b0 : Bool) (i1 i2 i3 i4 i5 i6 : Int) (l7 l8 l9 l10 l11 : List (List V)) : L1_1_1_1_1_1_0_1_0v1 b0 i1 i2 i3 i4 i5 i6 l7 l8 l9 l10 l11 =
  (bif (decide (i5 < (l10.length : Int))) then (if (((0 : Int) <= i5) ∧ (i5 < (l10.length : Int))) then (V.asInt (List.getD (List.getD l10 (Int.toNat i5) []) 0 V.undef) .i64 (fun n103 => V.asStr (List.getD (List.getD l10 (Int.toNat i5) []) 1 V.undef) (fun s104 => V.asInt (List.getD (List.getD l10 (Int.toNat i5) []) 2 V.undef) .i64 (fun n105 => V.asSl (List.getD (List.getD l10 (Int.toNat i5) []) 3 V.undef) T_api_Expr (fun es106 => bif b0 then (den Sp ref12_names.id [V.sl .no T_string [[V.str s104]]] [] none).bind (fun r108 => Res.onRet r108 (fun v109 => V.asBool v109 (fun b110 => bif b110 then (bif (n103 == (0 : Int)) then (bif (decide (n105 >= (0 : Int))) then (L1_1_1_1_1_1_0_1_0_0_1_0_0_1_1_1_0 (decide ((es106.length : Int) < (2 : Int))) i1 i2 i3 i4 i5 (0 : Int) l7 l8 l9 l10 l11 n103 s104 n105 es106) else (L1_1_1_1_1_1_0_1_0_0_1_0_0_1_1_1_0 false i1 i2 i3 i4 i5 (0 : Int) l7 l8 l9 l10 l11 n103 s104 n105 es106)) else (bif (n103 == (1 : Int)) then (bif (decide (n105 >= (0 : Int))) then (L1_1_1_1_1_1_0_1_0_0_1_0_0_1_1_1_0 (decide ((es106.length : Int) < (2 : Int))) i1 i2 i3 i4 i5 (0 : Int) l7 l8 l9 l10 l11 n103 s104 n105 es106) else (L1_1_1_1_1_1_0_1_0_0_1_0_0_1_1_1_0 false i1 i2 i3 i4 i5 (0 : Int) l7 l8 l9 l10 l11 n103 s104 n105 es106)) else (L1_1_1_1_1_1_0_1_0_0_1_0_0_1_1_1_0 false i1 i2 i3 i4 i5 (0 : Int) l7 l8 l9 l10 l11 n103 s104 n105 es106))) else (L1_1_1_1_1_1_0_1_0_0_1_0_0_1_1_1_0 false i1 i2 i3 i4 i5 (0 : Int) l7 l8 l9 l10 l11 n103 s104 n105 es106)))) else (L1_1_1_1_1_1_0_1_0_0_1_0_0_1_1_1_0 false i1 i2 i3 i4 i5 (0 : Int) l7 l8 l9 l10 l11 n103 s104 n105 es106)))))) else none) else (some ⟨Out.ret (V.bool b0), [], none⟩)) := (LP_eq ..).trans (by kernel_rfl)
theorem eq (a0_0 a0_1 a0_2 a0_3 a0_4 : List (List V)) : den Sp id [V.agg [V.sl .no T_api_Pair a0_0, V.sl .no T_api_Pair a0_1, V.sl .no T_parallaxref12_Keep a0_2, V.sl .no T_parallaxref12_Break a0_3, V.sl .no T_parallaxref12_Watch a0_4]] [] none =
  (L1_1_0_1_0 true (0 : Int) a0_0 a0_1 a0_2 a0_3 a0_4) := (den_eq ..).trans (by kernel_rfl)
end ref12_Right
end Go.Proofs.YtmhnmelaodhemaaGreatDoor
namespace Go.Proofs.YtmhnmelaodhemaaGreatDoor
open Go Go.Proofs.Ab Go.Proofs.Px
theorem names12_is (l : List (List UInt8)) (hl : l.length <= 1000) (hs : ∀ s ∈ l, s.length <= 140737488351232) : den Sp ref12_names.id [.sl .no T_string (sv l)] [] none = some ⟨.ret (.bool (l.all isN)), [], none⟩ := by
 have key : ∀ i : Nat, i <= l.length -> ref12_names.L1_0_1_0 (sv l) (i : Int) = some ⟨.ret (.bool ((l.drop i).all isN)), [], none⟩ := by
  refine down ?_ fun i hi ih => ?_
  ·rw [ref12_names.L1_0_1_0_eq]; simp
  ·have hn := ref02_IsName_is (B l[i]) (by rw [B_size]; have := hs _ (List.getElem_mem hi); omega)
   rw [ref12_names.L1_0_1_0_eq, List.drop_eq_getElem_cons hi, List.all_cons, sv_len, decide_eq_true (show (i : Int) < (l.length : Int) by omega), cond_true, if_pos (in_row hi), Int.toNat_natCast, sv_at _ _ hi, asStr_str, hn, wrap_nat (by omega), ih]
   unfold isN
   cases isName (B l[i]) <;> simp
 have := key 0 (Nat.zero_le _)
 rw [ref12_names.eq]
 simpa using this
theorem okWhenG_drop {l : List Ex} {i : Nat} (h : i < l.length) : okWhen (l.drop i) = (decide ((prX l[i]).2 = 0) && okWhen (l.drop (i + 1))) := by
 rw [List.drop_eq_getElem_cons h, okWhen]
theorem ref12_Right_is (f : Fl) (hf : FlOk f) (hbk : Bk.sizes f.breaks <= 600) : den Sp ref12_Right.id [.agg f.v] [] none = some ⟨.ret (.bool (okFile f)), [], none⟩ := by
 have hlw := hf.breaks.1
 have inner : ∀ (x y z : Int) (i : Nat) (hi : i < f.breaks.length), (∀ (b : Bool) (k : Int), ref12_Right.L1_1_1_1_1_1_0_1_0v1 b x y z (f.watches.length : Int) ((i + 1 : Nat) : Int) k (f.pairs.map Pai.v) (f.sames.map Pai.v) (f.keeps.map Kp.v) (f.breaks.map Bk.v) (f.watches.map Wt.v) = some ⟨.ret (.bool (b && allK okBreak (f.breaks.drop (i + 1)))), [], none⟩) ->
   ∀ j : Nat, j <= f.breaks[i].whn.length -> ∀ b : Bool, ref12_Right.L1_1_1_1_1_1_0_1_0_0_1_0_0_1_1_1_0 b x y z (f.watches.length : Int) (i : Int) (j : Int) (f.pairs.map Pai.v) (f.sames.map Pai.v) (f.keeps.map Kp.v) (f.breaks.map Bk.v) (f.watches.map Wt.v) f.breaks[i].side (B f.breaks[i].prc) f.breaks[i].mark (f.breaks[i].whn.map Ex.v) = some ⟨.ret (.bool (b && (okWhen (f.breaks[i].whn.drop j) && allK okBreak (f.breaks.drop (i + 1))))), [], none⟩ := by
  intro x y z i hi hnext
  have ho := hf.breaks.2 _ (List.getElem_mem hi)
  have hsz := Bk.sizes_mem (List.getElem_mem hi)
  simp only [Int.natCast_add, Int.natCast_one] at hnext
  refine down (fun b => ?_) fun j hj ih b => ?_
  ·rw [ref12_Right.L1_1_1_1_1_1_0_1_0_0_1_0_0_1_1_1_0_eq]
   simp (disch := omega) [wrap_in, hnext, okWhen]
  ·have hp := ref03_PrintExpr_is f.breaks[i].whn[j] (ho.whn.2 _ (List.getElem_mem hj)) (by have := Ex.size_mem (List.getElem_mem hj); omega)
   have hw := ho.whn.1
   simp only [Int.natCast_add, Int.natCast_one] at ih
   rw [ref12_Right.L1_1_1_1_1_1_0_1_0_0_1_0_0_1_1_1_0_eq, okWhenG_drop hj]
   cases b <;> by_cases c : (prX f.breaks[i].whn[j]).2 = 0 <;> simp (disch := omega) [hj, hp, wrap_in, List.getElem?_cons_zero, c, ih]
 have breaks : ∀ (x y z : Int) (i : Nat), i <= f.breaks.length -> ∀ (b : Bool) (k : Int), ref12_Right.L1_1_1_1_1_1_0_1_0v1 b x y z (f.watches.length : Int) (i : Int) k (f.pairs.map Pai.v) (f.sames.map Pai.v) (f.keeps.map Kp.v) (f.breaks.map Bk.v) (f.watches.map Wt.v) = some ⟨.ret (.bool (b && allK okBreak (f.breaks.drop i))), [], none⟩ := by
  intro x y z
  refine down (fun b k => ?_) fun i hi ih b k => ?_
  ·rw [ref12_Right.L1_1_1_1_1_1_0_1_0v1_eq]; simp [allK]
  ·have ho := hf.breaks.2 _ (List.getElem_mem hi)
   have hin := inner x y z i hi ih 0 (Nat.zero_le _)
   simp only [List.drop_zero, Int.natCast_zero] at hin
   have q := names12_is [f.breaks[i].prc] (by simp) (by simpa using ho.prc)
   simp only [<- sv_one] at q
   have hat : (f.breaks.map Bk.v).getD i [] = f.breaks[i].v := map_at _ _ _ hi
   rw [ref12_Right.L1_1_1_1_1_1_0_1_0v1_eq, allK_drop hi]
   simp only [List.length_map, decide_eq_true (show (i : Int) < (f.breaks.length : Int) by omega), cond_true, if_pos (in_row hi), Int.toNat_natCast, hat, Bk.v_0, Bk.v_1, Bk.v_2, Bk.v_3, asInt_int, asStr_str, asSl_sl]
   have g1 : okBreak f.breaks[i] = (isN f.breaks[i].prc && (decide (f.breaks[i].side = 0) || decide (f.breaks[i].side = 1)) && decide (0 <= f.breaks[i].mark) && decide (f.breaks[i].whn.length < 2) && okWhen f.breaks[i].whn) := rfl
   rw [g1]
   have c2 : decide ((f.breaks[i].whn.length : Int) < 2) = decide (f.breaks[i].whn.length < 2) := by congr 1; exact propext (by omega)
   have e2 : ([[V.str (B f.breaks[i].prc)]] : List (List V)) = sv [f.breaks[i].prc] := rfl
   rw [sv_one] at q
   cases b with
   | false => simp [hin]
   | true =>
    cases c1 : isN f.breaks[i].prc with
    | false => simp [e2, q, c1, hin]
    | true =>
     by_cases s0 : f.breaks[i].side = 0
     ·have hin' := hin
      rw [s0] at hin'
      by_cases m0 : 0 <= f.breaks[i].mark <;> simp [e2, q, c1, hin', s0, m0, c2, Bool.and_assoc]
     ·by_cases s1 : f.breaks[i].side = 1
      ·have hin' := hin
       rw [s1] at hin'
       by_cases m0 : 0 <= f.breaks[i].mark <;> simp [e2, q, c1, hin', s1, m0, c2, Bool.and_assoc]
      ·simp [e2, q, c1, hin, s0, s1]
 have watches : ∀ (x y z : Int) (i : Nat), i <= f.watches.length -> ∀ b : Bool, ref12_Right.L1_1_1_1_1_0_1_0 b x y z (i : Int) (f.pairs.map Pai.v) (f.sames.map Pai.v) (f.keeps.map Kp.v) (f.breaks.map Bk.v) (f.watches.map Wt.v) = some ⟨.ret (.bool (b && (allK okWatch (f.watches.drop i) && allK okBreak f.breaks))), [], none⟩ := by
  intro x y z
  have hl := hf.watches.1
  refine down (fun b => ?_) fun i hi ih b => ?_
  ·have e := breaks x y z 0 (Nat.zero_le _) b 0
   rw [ref12_Right.L1_1_1_1_1_0_1_0_eq]
   simp only [List.length_map, decide_eq_false (Int.lt_irrefl _), cond_false, List.drop_length, allK, Bool.true_and]
   refine Eq.trans ?_ e
   rw [ref12_Right.L1_1_1_1_1_1_0_1_0_eq, ref12_Right.L1_1_1_1_1_1_0_1_0v1_eq]; rfl
  ·have ho := hf.watches.2 _ (List.getElem_mem hi)
   have wr : IntKind.i64.wrap ((i : Int) + 1) = (i : Int) + 1 := wrap_in (by omega) (by omega)
   have q := names12_is [f.watches[i].prc, f.watches[i].vr] (by simp) (by simpa using ⟨ho.prc, ho.vr⟩)
   have e2 : ([[V.str (B f.watches[i].prc)], [V.str (B f.watches[i].vr)]] : List (List V)) = sv [f.watches[i].prc, f.watches[i].vr] := rfl
   have hat : (f.watches.map Wt.v).getD i [] = f.watches[i].v := map_at _ _ _ hi
   simp only [Int.natCast_add, Int.natCast_one] at ih
   rw [ref12_Right.L1_1_1_1_1_0_1_0_eq, allK_drop hi]
   simp only [List.length_map, decide_eq_true (show (i : Int) < (f.watches.length : Int) by omega), cond_true, if_pos (in_row hi), Int.toNat_natCast, hat, Wt.v_0, Wt.v_1, Wt.v_2, asInt_int, asStr_str, e2, q, wr, ih]
   unfold okWatch sideK
   cases b with
   | false => simp
   | true => cases c1 : isN f.watches[i].prc <;> cases c2 : isN f.watches[i].vr <;> by_cases s0 : f.watches[i].side = 0 <;> by_cases s1 : f.watches[i].side = 1 <;> simp [c1, c2, s0, s1]
 have keeps : ∀ (x y : Int) (i : Nat), i <= f.keeps.length -> ∀ b : Bool, ref12_Right.L1_1_1_1_0_1_0 b x y (i : Int) (f.pairs.map Pai.v) (f.sames.map Pai.v) (f.keeps.map Kp.v) (f.breaks.map Bk.v) (f.watches.map Wt.v) = some ⟨.ret (.bool (b && (allK okKeep (f.keeps.drop i) && (allK okWatch f.watches && allK okBreak f.breaks)))), [], none⟩ := by
  intro x y
  have hl := hf.keeps.1
  refine down (fun b => ?_) fun i hi ih b => ?_
  ·have e := watches x y (f.keeps.length : Int) 0 (Nat.zero_le _) b
   rw [ref12_Right.L1_1_1_1_0_1_0_eq]
   simp only [List.length_map, decide_eq_false (Int.lt_irrefl _), cond_false, List.drop_length, allK, Bool.true_and]
   exact e
  ·have ho := hf.keeps.2 _ (List.getElem_mem hi)
   have wr : IntKind.i64.wrap ((i : Int) + 1) = (i : Int) + 1 := wrap_in (by omega) (by omega)
   have q := names12_is [f.keeps[i].prc, f.keeps[i].vr] (by simp) (by simpa using ⟨ho.prc, ho.vr⟩)
   have e2 : ([[V.str (B f.keeps[i].prc)], [V.str (B f.keeps[i].vr)]] : List (List V)) = sv [f.keeps[i].prc, f.keeps[i].vr] := rfl
   have hat : (f.keeps.map Kp.v).getD i [] = f.keeps[i].v := map_at _ _ _ hi
   simp only [Int.natCast_add, Int.natCast_one] at ih
   rw [ref12_Right.L1_1_1_1_0_1_0_eq, allK_drop hi]
   simp only [List.length_map, decide_eq_true (show (i : Int) < (f.keeps.length : Int) by omega), cond_true, if_pos (in_row hi), Int.toNat_natCast, hat, Kp.v_0, Kp.v_1, Kp.v_2, asInt_int, asStr_str, e2, q, wr, ih]
   unfold okKeep sideK
   cases b with
   | false => simp
   | true => cases c1 : isN f.keeps[i].prc <;> cases c2 : isN f.keeps[i].vr <;> by_cases s0 : f.keeps[i].side = 0 <;> by_cases s1 : f.keeps[i].side = 1 <;> simp [c1, c2, s0, s1]
 have sames : ∀ (x : Int) (i : Nat), i <= f.sames.length -> ∀ b : Bool, ref12_Right.L1_1_1_0_1_0 b x (i : Int) (f.pairs.map Pai.v) (f.sames.map Pai.v) (f.keeps.map Kp.v) (f.breaks.map Bk.v) (f.watches.map Wt.v) = some ⟨.ret (.bool (b && (allK okSame (f.sames.drop i) && (allK okKeep f.keeps && (allK okWatch f.watches && allK okBreak f.breaks))))), [], none⟩ := by
  intro x
  have hl := hf.sames.1
  refine down (fun b => ?_) fun i hi ih b => ?_
  ·have e := keeps x (f.sames.length : Int) 0 (Nat.zero_le _) b
   rw [ref12_Right.L1_1_1_0_1_0_eq]
   simp only [List.length_map, decide_eq_false (Int.lt_irrefl _), cond_false, List.drop_length, allK, Bool.true_and]
   exact e
  ·have ho := hf.sames.2 _ (List.getElem_mem hi)
   have wr : IntKind.i64.wrap ((i : Int) + 1) = (i : Int) + 1 := wrap_in (by omega) (by omega)
   have q := names12_is [f.sames[i].procA, f.sames[i].procB, f.sames[i].varA, f.sames[i].varB] (by simp) (by simpa using ⟨ho.procA, ho.procB, ho.varA, ho.varB⟩)
   have e2 : ([[V.str (B f.sames[i].procA)], [V.str (B f.sames[i].procB)], [V.str (B f.sames[i].varA)], [V.str (B f.sames[i].varB)]] : List (List V)) = sv [f.sames[i].procA, f.sames[i].procB, f.sames[i].varA, f.sames[i].varB] := rfl
   have hat : (f.sames.map Pai.v).getD i [] = f.sames[i].v := map_at _ _ _ hi
   simp only [Int.natCast_add, Int.natCast_one] at ih
   rw [ref12_Right.L1_1_1_0_1_0_eq, allK_drop hi]
   simp only [List.length_map, decide_eq_true (show (i : Int) < (f.sames.length : Int) by omega), cond_true, if_pos (in_row hi), Int.toNat_natCast, hat, Pai.v_0, Pai.v_1, Pai.v_2, Pai.v_3, asInt_int, asStr_str, e2, q, wr, ih]
   unfold okSame
   cases b with
   | false => simp
   | true => cases c1 : isN f.sames[i].procA <;> cases c2 : isN f.sames[i].procB <;> cases c3 : isN f.sames[i].varA <;> cases c4 : isN f.sames[i].varB <;> simp [c1, c2, c3, c4]
 have pairs : ∀ (i : Nat), i <= f.pairs.length -> ∀ b : Bool, ref12_Right.L1_1_0_1_0 b (i : Int) (f.pairs.map Pai.v) (f.sames.map Pai.v) (f.keeps.map Kp.v) (f.breaks.map Bk.v) (f.watches.map Wt.v) = some ⟨.ret (.bool (b && (allK okPair (f.pairs.drop i) && (allK okSame f.sames && (allK okKeep f.keeps && (allK okWatch f.watches && allK okBreak f.breaks)))))), [], none⟩ := by
  have hl := hf.pairs.1
  refine down (fun b => ?_) fun i hi ih b => ?_
  ·have e := sames (f.pairs.length : Int) 0 (Nat.zero_le _) b
   rw [ref12_Right.L1_1_0_1_0_eq]
   simp only [List.length_map, decide_eq_false (Int.lt_irrefl _), cond_false, List.drop_length, allK, Bool.true_and]
   exact e
  ·have ho := hf.pairs.2 _ (List.getElem_mem hi)
   have wr : IntKind.i64.wrap ((i : Int) + 1) = (i : Int) + 1 := wrap_in (by omega) (by omega)
   have q := names12_is [f.pairs[i].procA, f.pairs[i].procB] (by simp) (by simpa using ⟨ho.procA, ho.procB⟩)
   have e2 : ([[V.str (B f.pairs[i].procA)], [V.str (B f.pairs[i].procB)]] : List (List V)) = sv [f.pairs[i].procA, f.pairs[i].procB] := rfl
   have hat : (f.pairs.map Pai.v).getD i [] = f.pairs[i].v := map_at _ _ _ hi
   simp only [Int.natCast_add, Int.natCast_one] at ih
   rw [ref12_Right.L1_1_0_1_0_eq, allK_drop hi]
   simp only [List.length_map, decide_eq_true (show (i : Int) < (f.pairs.length : Int) by omega), cond_true, if_pos (in_row hi), Int.toNat_natCast, hat, Pai.v_0, Pai.v_1, Pai.v_2, Pai.v_3, asInt_int, asStr_str, e2, q, wr, ih]
   unfold okPair
   cases b with
   | false => simp
   | true => cases c1 : isN f.pairs[i].procA <;> cases c2 : isN f.pairs[i].procB <;> by_cases c3 : f.pairs[i].varA = [] <;> by_cases c4 : f.pairs[i].varB = [] <;> simp [c1, c2, c3, c4]
 have e := pairs 0 (Nat.zero_le _) true
 simp only [List.drop_zero, Int.natCast_zero, Bool.true_and] at e
 rw [Fl.v, ref12_Right.eq]
 refine e.trans ?_
 unfold okFile
 rw [Bool.and_comm (allK okWatch f.watches)]
def tk (l : List Tk) (k : Nat) : Tk := l.getD k ⟨0, [], 0, 0⟩
def isT (t : Tk) (s : List UInt8) : Bool := (decide (t.kind = 3) || decide (t.kind = 4)) && decide (t.text = s)
def opensT (t : Tk) : Bool := decide (t.kind = 1) || decide (t.kind = 2) || isT t [116, 114, 117, 101] || isT t [102, 97, 108, 115, 101] || isT t [40] || isT t [45] || isT t [33]
def levelT (s : List UInt8) : Int :=
 if s = [124, 124] then 1 else if s = [38, 38] then 2 else if s = [61, 61] then 3 else if s = [33, 61] then 3 else if s = [60] then 3 else if s = [60, 61] then 3
 else if s = [43] then 4 else if s = [45] then 4 else if s = [42] then 5 else if s = [47] then 5 else if s = [37] then 5 else 0
def signT (t : Tk) : Int := if t.kind = 4 then levelT t.text else 0
abbrev Rd := Except (Int × Int) (Ex × Nat)
def partR (l : List Tk) (d : Int) (k : Nat) (r : Rd) : Rd := if opensT (tk l k) = false then .error ((tk l k).at_, 30) else if 60 < d then .error ((tk l k).at_, 31) else r
def wantR (l : List Tk) (s : List UInt8) (r : Rd) (f : Ex -> Ex) : Rd := match r with
 | .error e => .error e
 | .ok (x, k) => if isT (tk l k) s then .ok (f x, k + 1) else .error ((tk l k).at_, 30)
mutual
def oneW (l : List Tk) (d : Int) (k : Nat) : Rd :=
 if hk : k < l.length then
  if isT (tk l k) [45] = true ∨ isT (tk l k) [33] = true then
   partR l (d + 1) (k + 1) (match oneW l (d + 1) (k + 1) with | .error e => .error e | .ok (x, j) => .ok (.mk 5 (tk l k).text 0 [x], j))
  else if isT (tk l k) [40] = true then wantR l [41] (partR l (d + 1) (k + 1) (tightW l 1 (d + 1) (k + 1))) id
  else if isT (tk l k) [116, 114, 117, 101] = true then .ok (.mk 2 [] 1 [], k + 1)
  else if isT (tk l k) [102, 97, 108, 115, 101] = true then .ok (.mk 2 [] 0 [], k + 1)
  else if (tk l k).kind = 2 then .ok (.mk 1 [] (tk l k).num [], k + 1)
  else if (tk l k).kind ≠ 1 then .error ((tk l k).at_, 30)
  else if isT (tk l (k + 1)) [91] = true then wantR l [93] (partR l (d + 1) (k + 2) (tightW l 1 (d + 1) (k + 2))) (fun x => .mk 4 (tk l k).text 0 [x])
  else .ok (.mk 3 (tk l k).text 0 [], k + 1)
 else .error (0, 0)
termination_by (l.length - k, 0)
def tightW (l : List Tk) (n d : Int) (k : Nat) : Rd :=
 match oneW l d k with
 | .error e => .error e
 | .ok (x, j) => if h : k < j ∧ k < l.length then loopW l n d 5 x j else .error (0, 0)
termination_by (l.length - k, 1)
def loopW (l : List Tk) (n d most : Int) (x : Ex) (k : Nat) : Rd :=
 if hk : k < l.length then
  if signT (tk l k) = 0 ∨ signT (tk l k) < n ∨ most < signT (tk l k) then .ok (x, k)
  else match tightW l (signT (tk l k) + 1) d (k + 1) with
   | .error e => .error e
   | .ok (y, j) => if h : k < j then loopW l n d (if signT (tk l k) = 3 then 2 else signT (tk l k)) (.mk 6 (tk l k).text 0 [x, y]) j else .error (0, 0)
 else .error (0, 0)
termination_by (l.length - k, 2)
decreasing_by all_goals (simp_wf; first | omega | (apply Prod.Lex.left; omega) | (apply Prod.Lex.right; omega))
end
end Go.Proofs.YtmhnmelaodhemaaGreatDoor
