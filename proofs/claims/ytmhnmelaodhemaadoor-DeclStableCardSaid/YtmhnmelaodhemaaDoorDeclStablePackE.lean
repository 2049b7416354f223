/- Own texts under the law DeclStable, merged, without what it does not lean on: part 5 of 6 (the abstract machine and its proof; residual forms; contracts; the plain law). -/
import Derived.Test.YtmhnmelaodhemaaDoorDeclStablePackD
import Derived.Laws.Bits64
set_option linter.unusedVariables false
set_option linter.unusedSimpArgs false
set_option linter.unusedSectionVars false
set_option maxRecDepth 100000
namespace Go.Proofs.YtmhnmelaodhemaaDoor
open Go Go.Proofs.Ab Go.Proofs.Px
def wD (ws : List (List UInt8)) (b : Bool) : Blk := .cells T_decl_writer [.sl (.row 0) T_string (sv ws), .bool b] false
theorem nb_drop {l : List (List UInt8)} {i : Nat} (h : i < l.length) : nb (l.drop i) = ((!isN l[i] && !decide (l[i] = [40]) && !decide (l[i] = [41])) || nb (l.drop (i + 1))) := by
 unfold nb; rw [List.drop_eq_getElem_cons h, List.any_cons]
theorem isName_is (l : List (List UInt8)) (hl : l.length <= 1000) (hs : ∀ s ∈ l, s.length <= 140737488351232) : den Sp decl_isName.id [.sl .no T_string (sv l)] [] none = some ⟨.ret (.bool (l.all isN)), [], none⟩ := by
 have key : ∀ i : Nat, i <= l.length -> decl_isName.L1_0_1_0 (sv l) (l.length : Int) (i : Int) = some ⟨.ret (.bool ((l.drop i).all isN)), [], none⟩ := by
  refine down ?_ fun i hi ih => ?_
  ·rw [decl_isName.L1_0_1_0_eq]; simp
  ·have hn := lex_IsName_is (B l[i]) (by rw [B_size]; have := hs _ (List.getElem_mem hi); omega)
   rw [decl_isName.L1_0_1_0_eq, List.drop_eq_getElem_cons hi, List.all_cons, sv_len, decide_eq_true (show (i : Int) < (l.length : Int) by omega), cond_true, if_pos (in_row hi), Int.toNat_natCast, sv_at _ _ hi, asStr_str, hn, wrap_nat (by omega), ih]
   unfold isN
   cases isName (B l[i]) <;> simp
 have := key 0 (Nat.zero_le _)
 rw [decl_isName.eq, sv_len]
 simpa using this
theorem names_is (l : List (List UInt8)) (hl : l.length <= 1000) (hs : ∀ s ∈ l, s.length <= 140737488351232) (ws : List (List UInt8)) (b : Bool) (hw : ws.length <= 1000000000) :
  den Sp decl_writer_names.id [.ref 0 0, .sl .no T_string (sv l)] [wD ws b] none = some ⟨.ret (.tup []), [wD (ws ++ l) (b || nb l)], none⟩ := by
 have key : ∀ i : Nat, i <= l.length -> ∀ b : Bool, decl_writer_names.L0_1_0 (sv l) (sv l) (l.length : Int) (i : Int) (sv ws) b = some ⟨.ret (.tup []), [wD (ws ++ l) (b || nb (l.drop i))], none⟩ := by
  refine down (fun b => ?_) fun i hi ih b => ?_
  ·rw [decl_writer_names.L0_1_0_eq]
   unfold wD
   simp (disch := omega) [most_if, nb]
  ·have hn := lex_IsName_is (B l[i]) (by rw [B_size]; have := hs _ (List.getElem_mem hi); omega)
   rw [decl_writer_names.L0_1_0_eq, nb_drop hi, sv_len, decide_eq_true (show (i : Int) < (l.length : Int) by omega), cond_true, if_pos (in_row hi), Int.toNat_natCast, sv_at _ _ hi, asStr_str, hn, wrap_nat (by omega)]
   simp only [ih]
   unfold isN
   cases b <;> cases isName (B l[i]) <;> by_cases c1 : l[i] = [40] <;> by_cases c2 : l[i] = [41] <;> simp [c1, c2]
 have := key 0 (Nat.zero_le _) b
 unfold wD at *
 rw [decl_writer_names.eq, sv_len]
 simpa using this
theorem end_is (ws : List (List UInt8)) (b : Bool) (hw : ws.length <= 1000000000) : den Sp decl_writer_end.id [.ref 0 0] [wD ws b] none = some ⟨.ret (.tup []), [wD (ws ++ [[59]]) b], none⟩ := by
 unfold wD
 rw [decl_writer_end.eq]
 simp (disch := omega) [most_if, sv_one]
theorem wside_is (ws : List (List UInt8)) (b : Bool) (n : Int) (hw : ws.length <= 1000000000) : den Sp decl_writer_side.id [.ref 0 0, .int .i64 n] [wD ws b] none = some ⟨.ret (.tup []), [wD (ws ++ [sideT n]) (b || !sideK n)], none⟩ := by
 have e1 := fun b => names_is [[114, 105, 103, 104, 116]] (by decide) (by decide) ws b hw
 have e2 := fun b => names_is [[108, 101, 102, 116]] (by decide) (by decide) ws b hw
 have n1 : nb [[114, 105, 103, 104, 116]] = false := by decide
 have n2 : nb [[108, 101, 102, 116]] = false := by decide
 simp only [n1, n2, Bool.or_false] at e1 e2
 simp only [<- sv_one] at e1 e2
 unfold wD at *
 rw [decl_writer_side.eq]
 unfold sideT sideK
 by_cases c1 : n = 1
 ·subst c1; cases b <;> simp [e1]
 ·by_cases c0 : n = 0
  ·subst c0; cases b <;> simp [e2]
  ·cases b <;> simp [c1, c0, e2]
theorem okWhen_drop {l : List Ex} {i : Nat} (h : i < l.length) : okWhen (l.drop i) = (decide ((prX l[i]).2 = 0) && okWhen (l.drop (i + 1))) := by
 rw [List.drop_eq_getElem_cons h, okWhen]
theorem whenW_drop {l : List Ex} {i : Nat} (h : i < l.length) : whenW (l.drop i) = [119, 104, 101, 110] :: (prX l[i]).1 :: whenW (l.drop (i + 1)) := by
 rw [List.drop_eq_getElem_cons h, whenW]
theorem stop_is (x : Bk) (ho : BkOk x) (hs : x.whn.length + Ex.sizes x.whn <= 100000) (ws : List (List UInt8)) (b : Bool) (hw : ws.length <= 100000000) :
  den Sp decl_writer_stop.id [.ref 0 0, .agg x.v] [wD ws b] none = some ⟨.ret (.tup []), [wD (ws ++ breakW x) (b || nb [x.prc] || !sideK x.side || decide (x.mark < 0) || decide (1 < x.whn.length) || !okWhen x.whn)], none⟩ := by
 have hx : ∀ i (hi : i < x.whn.length), den Sp syntax_PrintExpr.id [.agg x.whn[i].v] [] none = some ⟨.ret (.tup [.str (B (prX x.whn[i]).1), .int .i64 (prX x.whn[i]).2]), [], none⟩ := fun i hi => by
  have := Ex.size_mem (List.getElem_mem hi)
  exact syntax_PrintExpr_is _ (ho.whn.2 _ (List.getElem_mem hi)) (by omega)
 have bad : ∀ i : Nat, i <= x.whn.length -> ∀ ws : List (List UInt8), ws.length + 2 * (x.whn.length - i) <= 1000000000 -> decl_writer_stop.L1_1_1_1_1_1_0_1_0 (x.whn.map Ex.v) (x.whn.length : Int) (i : Int) (sv ws) x.side (B x.prc) x.mark (x.whn.map Ex.v) = some ⟨.ret (.tup []), [wD (ws ++ (whenW (x.whn.drop i) ++ [[59]])) true], none⟩ := by
  refine down (fun ws hw => ?_) fun i hi ih ws hw => ?_
  ·have e := end_is ws true (by omega)
   unfold wD at *
   rw [decl_writer_stop.L1_1_1_1_1_1_0_1_0_eq]
   simp [e, whenW]
  ·have e := ih (ws ++ [[119, 104, 101, 110], (prX x.whn[i]).1]) (by simp; omega)
   simp only [Int.natCast_add, Int.natCast_one] at e
   rw [decl_writer_stop.L1_1_1_1_1_1_0_1_0_eq, whenW_drop hi]
   have e1 := hx i hi
   have e3 : ([[V.str (B [119, 104, 101, 110])], [V.str (B (prX x.whn[i]).1)]] : List (List V)) = sv [[119, 104, 101, 110], (prX x.whn[i]).1] := rfl
   simp (disch := omega) [hi, e1, most_if, wrap_in, List.getElem?_cons_zero, e3, e]
 have good : ∀ i : Nat, i <= x.whn.length -> ∀ (ws : List (List UInt8)) (b : Bool), ws.length + 2 * (x.whn.length - i) <= 1000000000 -> decl_writer_stop.L1_1_1_1_1_1_0_1_0v1 (x.whn.map Ex.v) (x.whn.length : Int) (i : Int) (sv ws) b x.side (B x.prc) x.mark (x.whn.map Ex.v) = some ⟨.ret (.tup []), [wD (ws ++ (whenW (x.whn.drop i) ++ [[59]])) (b || !okWhen (x.whn.drop i))], none⟩ := by
  refine down (fun ws b hw => ?_) fun i hi ih ws b hw => ?_
  ·have e := end_is ws b (by omega)
   unfold wD at *
   rw [decl_writer_stop.L1_1_1_1_1_1_0_1_0v1_eq]
   simp [e, whenW, okWhen]
  ·have e := fun b => ih (ws ++ [[119, 104, 101, 110], (prX x.whn[i]).1]) b (by simp; omega)
   have e2 := bad (i + 1) hi (ws ++ [[119, 104, 101, 110], (prX x.whn[i]).1]) (by simp; omega)
   simp only [Int.natCast_add, Int.natCast_one] at e e2
   rw [decl_writer_stop.L1_1_1_1_1_1_0_1_0v1_eq, whenW_drop hi, okWhen_drop hi]
   have e1 := hx i hi
   have e3 : ([[V.str (B [119, 104, 101, 110])], [V.str (B (prX x.whn[i]).1)]] : List (List V)) = sv [[119, 104, 101, 110], (prX x.whn[i]).1] := rfl
   cases b <;> by_cases c : (prX x.whn[i]).2 = 0 <;> simp (disch := omega) [hi, e1, most_if, wrap_in, List.getElem?_cons_zero, e3, e, e2, c]
 have p1 := names_is [[98, 114, 101, 97, 107]] (by decide) (by decide) ws b (by omega)
 have n1 : nb [[98, 114, 101, 97, 107]] = false := by decide
 rw [n1, Bool.or_false] at p1
 have p2 := wside_is (ws ++ [[98, 114, 101, 97, 107]]) b x.side (by simp; omega)
 have p3 := names_is [x.prc] (by simp) (by simpa using ho.prc) (ws ++ [[98, 114, 101, 97, 107], sideT x.side]) (b || !sideK x.side) (by simp; omega)
 simp only [<- sv_one] at p1 p3
 obtain ⟨m1, m2⟩ := i64_bounds ho.mark
 have hm := num_Text_is x.mark m1 m2
 have b0 := bad 0 (Nat.zero_le _) (ws ++ [[98, 114, 101, 97, 107], sideT x.side, x.prc, decs x.mark]) (by simp; omega)
 have g0 := fun b => good 0 (Nat.zero_le _) (ws ++ [[98, 114, 101, 97, 107], sideT x.side, x.prc, decs x.mark]) b (by simp; omega)
 simp only [List.drop_zero, Int.natCast_zero] at b0 g0
 have hmo : ws.length + 3 + 1 <= most := by show _ <= 1099511627776; omega
 have cc : decide ((1 : Int) < (x.whn.length : Int)) = decide (1 < x.whn.length) := by congr 1; exact propext (by omega)
 have ew : ws ++ [[98, 114, 101, 97, 107], sideT x.side, x.prc, decs x.mark] ++ (whenW x.whn ++ [[59]]) = ws ++ breakW x := by unfold breakW; simp
 rw [ew] at b0 g0
 have hb : ∀ bb : Bool, (b || !sideK x.side || nb [x.prc]) = bb -> (b || nb [x.prc] || !sideK x.side || decide (x.mark < 0) || decide (1 < x.whn.length) || !okWhen x.whn) = (bb || decide (x.mark < 0) || decide (1 < x.whn.length) || !okWhen x.whn) := by
  rintro _ rfl
  cases b <;> cases nb [x.prc] <;> cases sideK x.side <;> rfl
 unfold wD at *
 rw [Bk.v, decl_writer_stop.eq]
 cases c : (b || !sideK x.side || nb [x.prc]) with
 | true =>
  rw [hb _ c]
  rw [c] at p3
  simp only [Bool.true_or] at b0 ⊢
  simp [p1, p2, p3, hm]
  simp (disch := (simp; omega)) [most_if, sv_one, cc]
  simpa [hmo] using b0
 | false =>
  rw [hb _ c]
  rw [c] at p3
  by_cases cm : x.mark < 0
  ·simp [p1, p2, p3, hm, cm]
   simp (disch := (simp; omega)) [most_if, sv_one, cc]
   simpa [hmo] using b0
  ·have g1 := g0 (decide (1 < x.whn.length))
   simp [p1, p2, p3, hm, cm]
   simp (disch := (simp; omega)) [most_if, sv_one, cc]
   simpa [hmo] using g1
theorem strsOf_sv : ∀ l : List (List UInt8), strsOf (sv l) = some (l.map B)
 | [] => rfl
 | s :: l => by
  have := strsOf_sv l
  show (match strsOf (sv l) with | some r => some (B s :: r) | none => none) = _
  rw [this]; rfl
theorem inter_joinL : ∀ l : List (List UInt8), [32].intercalate l = joinL l
 | [] => rfl
 | [a] => by simp [List.intercalate, joinL]
 | a :: b :: l => by
  have := inter_joinL (b :: l)
  simp only [List.intercalate] at this ⊢
  rw [joinL_cons a (by simp), <- this]
  simp [List.intersperse]
theorem strings_Join_is (ws : List (List UInt8)) (hl : ws.length <= 1099511627776) (hw : weighW ws <= 1099511627776) : den Sp 21 [.sl .no T_string (sv ws), .str (B [32])] [] none = some ⟨.ret (.str (B (joinL ws))), [], none⟩ := by
 rw [den_eq]
 show natJoin T_string [.sl .no T_string (sv ws), .str (B [32])] [] = _
 have hj : joinB (ws.map B) (B [32]) = B (joinL ws) := by
  have e : (ws.map B).map (fun x => x.data.toList) = ws := by
   rw [List.map_map]
   have : ((fun x : ByteArray => x.data.toList) ∘ B) = id := by funext x; rfl
   rw [this, List.map_id]
  show (⟨([32].intercalate ((ws.map B).map fun x => x.data.toList)).toArray⟩ : ByteArray) = _
  rw [e, inter_joinL]; rfl
 have h1 := joinL_len ws
 unfold natJoin
 simp only [strsOf_sv, hj, List.length_map, B_size]
 rw [show Nat.beq T_string T_string = true from rfl, cond_true, if_pos ⟨hl, by show _ <= 1099511627776; omega⟩]
def finF (f : Fl) (ws : List (List UInt8)) (b : Bool) : Option Res := some ⟨.ret (if b then .tup [.str (B []), .int .i64 32] else if longF f then .tup [.str (B []), .int .i64 2] else .tup [.str (B (joinL ws)), .int .i64 0]), [], none⟩
def Okw (ws : List (List UInt8)) (b : Bool) (n : Nat) : Prop := ws.length + 10 * n <= 1000000 ∧ (b = false -> weighW ws + 1000 * n <= 1000000000)
theorem two_if {R : Type} (a b : Bool) (x y : R) : (bif a then x else bif b then x else y) = (bif (a || b) then x else y) := by cases a <;> rfl
theorem long_if (f : Fl) : (decide ((if ((f.keeps.length : Nat) : Int) > (if ((f.sames.length : Nat) : Int) > ((f.pairs.length : Nat) : Int) then ((f.sames.length : Nat) : Int) else ((f.pairs.length : Nat) : Int)) then ((f.keeps.length : Nat) : Int) else (if ((f.sames.length : Nat) : Int) > ((f.pairs.length : Nat) : Int) then ((f.sames.length : Nat) : Int) else ((f.pairs.length : Nat) : Int))) > 40) || decide ((if ((f.watches.length : Nat) : Int) > ((f.breaks.length : Nat) : Int) then ((f.watches.length : Nat) : Int) else ((f.breaks.length : Nat) : Int)) > 40)) = longF f := by
 unfold longF
 rw [Bool.eq_iff_iff]
 simp only [Bool.or_eq_true, decide_eq_true_eq]
 constructor
 ·intro h; split at h <;> split at h <;> (try split at h) <;> omega
 ·intro h; split <;> split <;> (try split) <;> omega
theorem Okw.step {ws w : List (List UInt8)} {b b' : Bool} {n c m : Nat} (h : Okw ws b n) (hn : n = c + m) (hl : w.length <= 10 * c) (hw : b' = false -> b = false ∧ weighW w <= 1000 * c) : Okw (ws ++ w) b' m := by
 obtain ⟨h1, h2⟩ := h
 refine ⟨by rw [List.length_append]; omega, fun hb => ?_⟩
 obtain ⟨h3, h4⟩ := hw hb
 have := h2 h3
 rw [weighW_app]; omega
theorem decl_Print_watches (f : Fl) (hf : FlOk f) (p2 s2 k2 b2 : Int) (rp rs rk rb : List (List V)) (p1 s1 k1 b1 : Int) : ∀ i : Nat, i <= f.watches.length -> ∀ (ws : List (List UInt8)) (b : Bool), Okw ws b (f.watches.length - i) ->
  decl_Print.L1_1_1_1_1_1_0_1_0 rp p1 p2 rs s1 s2 rk k1 k2 rb b1 b2 (f.watches.map Wt.v) (f.watches.length : Int) (i : Int) (f.pairs.map Pai.v) (f.sames.map Pai.v) (f.keeps.map Kp.v) (f.breaks.map Bk.v) (f.watches.map Wt.v) (sv ws) b = finF f (ws ++ linesW watchW (f.watches.drop i)) (b || !allK okWatch (f.watches.drop i)) := by
 refine down (fun ws b hw => ?_) fun i hi ih ws b hw => ?_
 ·have hj : b = false -> den Sp 21 [.sl .no T_string (sv ws), .str (B [32])] [] none = _ := fun hb => strings_Join_is ws (by have := hw.1; omega) (by have := hw.2 hb; omega)
  have hlong := long_if f
  rw [decl_Print.L1_1_1_1_1_1_0_1_0_eq]
  simp only [List.length_map, decide_eq_false (Int.lt_irrefl _), cond_false, List.drop_length, linesW, allK, Bool.not_true, Bool.or_false, List.append_nil, finF]
  cases b with
  | true => rfl
  | false =>
   have := hj rfl
   rw [cond_false, two_if, hlong]
   cases longF f with
   | true => rfl
   | false =>
    rw [cond_false]
    refine (congrArg (fun o => Option.bind o _) this).trans ?_
    rfl
 ·have ho := hf.watches.2 _ (List.getElem_mem hi)
  have hlw := hf.watches.1
  have wr : IntKind.i64.wrap ((i : Int) + 1) = (i : Int) + 1 := wrap_in (by omega) (by omega)
  generalize hx : f.watches[i] = x at ho
  have q1 := isName_is [x.prc, x.vr] (by simp) (by simpa using ⟨ho.prc, ho.vr⟩)
  have l0 := hw.1
  have q2 := fun b => names_is [[119, 97, 116, 99, 104]] (by decide) (by decide) ws b (by omega)
  have q3 := fun b => wside_is (ws ++ [[119, 97, 116, 99, 104]]) b x.side (by simp; omega)
  have q4 := fun b => names_is [x.prc, x.vr] (by simp) (by simpa using ⟨ho.prc, ho.vr⟩) (ws ++ [[119, 97, 116, 99, 104], sideT x.side]) b (by simp; omega)
  have q5 := fun b => end_is (ws ++ [[119, 97, 116, 99, 104], sideT x.side, x.prc, x.vr]) b (by simp; omega)
  have n1 : nb [[119, 97, 116, 99, 104]] = false := by decide
  simp only [n1, Bool.or_false] at q2
  have e1 : ([[V.str (B [119, 97, 116, 99, 104])]] : List (List V)) = sv [[119, 97, 116, 99, 104]] := rfl
  have e2 : ([[V.str (B x.prc)], [V.str (B x.vr)]] : List (List V)) = sv [x.prc, x.vr] := rfl
  have ihb := fun (b' : Bool) (h : b' = false -> b = false ∧ okWatch x = true) => ih (ws ++ watchW x) b' (hw.step (c := 1) (by omega) (by simp [watchW]) (fun hb => ⟨(h hb).1, by have := watchW_weigh (h hb).2; omega⟩))
  simp only [Int.natCast_add, Int.natCast_one] at ihb
  rw [linesW_drop hi, allK_drop hi, hx, <- List.append_assoc]
  have hat : (f.watches.map Wt.v).getD i [] = x.v := by rw [map_at _ _ _ hi, hx]
  have g0 : (b || !(okWatch x && allK okWatch (List.drop (i + 1) f.watches))) = (b || !okWatch x || !allK okWatch (List.drop (i + 1) f.watches)) := by cases b <;> cases okWatch x <;> rfl
  rw [g0]
  have g1 : okWatch x = (isN x.prc && isN x.vr && sideK x.side) := rfl
  have g2 : isN x.prc = true -> isN x.vr = true -> nb [x.prc, x.vr] = false := fun h1 h2 => by simp [nb, h1, h2]
  unfold wD at *
  rw [decl_Print.L1_1_1_1_1_1_0_1_0_eq]
  simp only [List.length_map, decide_eq_true (show (i : Int) < (f.watches.length : Int) by omega), cond_true, if_pos (in_row hi), Int.toNat_natCast, hat, Wt.v_0, Wt.v_1, Wt.v_2, asInt_int, asStr_str, wr]
  have ew : ws ++ [[119, 97, 116, 99, 104], sideT x.side, x.prc, x.vr] ++ [[59]] = ws ++ watchW x := by simp [watchW]
  simp only [ew] at q5
  cases b with
  | true =>
   have := ihb true nofun
   simp [e1, e2, q2, q3, q4, q5]
   simpa using this
  | false =>
   cases c1 : isN x.prc with
   | false =>
    have := ihb true nofun
    simp [e1, e2, q1, q2, q3, q4, q5, c1]
    simpa [g1, c1] using this
   | true => cases c2 : isN x.vr with
    | false =>
     have := ihb true nofun
     simp [e1, e2, q1, q2, q3, q4, q5, c1, c2]
     simpa [g1, c1, c2] using this
    | true =>
     have := ihb (!sideK x.side) (fun h => ⟨rfl, by rw [g1, c1, c2]; simpa using h⟩)
     simp [e1, e2, q1, q2, q3, q4, q5, c1, c2, g2 c1 c2]
     simpa [g1, c1, c2] using this
theorem decl_Print_breaks (f : Fl) (hf : FlOk f) (hbk : Bk.sizes f.breaks <= 50000) (p2 s2 k2 : Int) (rp rs rk : List (List V)) (p1 s1 k1 : Int) : ∀ i : Nat, i <= f.breaks.length -> ∀ (ws : List (List UInt8)) (b : Bool), Okw ws b (Bk.sizes (f.breaks.drop i) + f.watches.length) ->
  decl_Print.L1_1_1_1_1_0_1_0 rp p1 p2 rs s1 s2 rk k1 k2 (f.breaks.map Bk.v) (f.breaks.length : Int) (i : Int) (f.pairs.map Pai.v) (f.sames.map Pai.v) (f.keeps.map Kp.v) (f.breaks.map Bk.v) (f.watches.map Wt.v) (sv ws) b = finF f (ws ++ (linesW breakW (f.breaks.drop i) ++ linesW watchW f.watches)) (b || !(allK okBreak (f.breaks.drop i) && allK okWatch f.watches)) := by
 refine down (fun ws b hw => ?_) fun i hi ih ws b hw => ?_
 ·have e := decl_Print_watches f hf p2 s2 k2 (f.breaks.length : Int) rp rs rk (f.breaks.map Bk.v) p1 s1 k1 (f.breaks.length : Int) 0 (Nat.zero_le _) ws b (by simpa [Bk.sizes] using hw)
  rw [decl_Print.L1_1_1_1_1_0_1_0_eq]
  simp only [List.length_map, decide_eq_false (Int.lt_irrefl _), cond_false, List.drop_length, linesW, allK, Bool.true_and, List.nil_append]
  exact e
 ·have ho := hf.breaks.2 _ (List.getElem_mem hi)
  have hsz := Bk.sizes_mem (List.getElem_mem hi)
  have hlw := hf.breaks.1
  have wr : IntKind.i64.wrap ((i : Int) + 1) = (i : Int) + 1 := wrap_in (by omega) (by omega)
  rw [Bk.sizes_drop hi] at hw
  generalize hx : f.breaks[i] = x at ho hsz hw
  have q1 := isName_is [x.prc] (by simp) (by simpa using ho.prc)
  have l0 := hw.1
  have q2 := fun b => stop_is x ho (by omega) ws b (by omega)
  have e2 : ([[V.str (B x.prc)]] : List (List V)) = sv [x.prc] := rfl
  have hlen := breakW_len x
  have ihb := fun (b' : Bool) (h : b' = false -> b = false ∧ okBreak x = true) => ih (ws ++ breakW x) b' (hw.step (c := 1 + x.whn.length + Ex.sizes x.whn) (by omega) (by omega) (fun hb => ⟨(h hb).1, breakW_weigh (h hb).2⟩))
  simp only [Int.natCast_add, Int.natCast_one] at ihb
  rw [linesW_drop hi, allK_drop hi, hx, List.append_assoc, <- List.append_assoc ws]
  have hat : (f.breaks.map Bk.v).getD i [] = x.v := by rw [map_at _ _ _ hi, hx]
  have g0 : (b || !(okBreak x && allK okBreak (List.drop (i + 1) f.breaks) && allK okWatch f.watches)) = (b || !okBreak x || !(allK okBreak (List.drop (i + 1) f.breaks) && allK okWatch f.watches)) := by cases b <;> cases okBreak x <;> rfl
  rw [g0]
  have g1 : (!isN x.prc || nb [x.prc] || !sideK x.side || decide (x.mark < 0) || decide (1 < x.whn.length) || !okWhen x.whn) = !okBreak x := by
   have a1 : decide (x.mark < 0) = !decide (0 <= x.mark) := by by_cases h : 0 <= x.mark <;> simp [h] <;> omega
   have a2 : decide (1 < x.whn.length) = !decide (x.whn.length < 2) := by by_cases h : x.whn.length < 2 <;> simp [h] <;> omega
   unfold okBreak
   rw [a1, a2]
   cases c : isN x.prc with
   | false => simp
   | true => rw [isN_nb c]; cases sideK x.side <;> cases decide (0 <= x.mark) <;> cases decide (x.whn.length < 2) <;> rfl
  have hv : [V.int .i64 x.side, .str (B x.prc), .int .i64 x.mark, .sl .no T_api_Expr (x.whn.map Ex.v)] = x.v := rfl
  unfold wD at *
  rw [decl_Print.L1_1_1_1_1_0_1_0_eq]
  simp only [List.length_map, decide_eq_true (show (i : Int) < (f.breaks.length : Int) by omega), cond_true, if_pos (in_row hi), Int.toNat_natCast, hat, Bk.v_0, Bk.v_1, Bk.v_2, Bk.v_3, asInt_int, asStr_str, asSl_sl, wr, hv]
  cases b with
  | true =>
   have := ihb true nofun
   simp only [Bool.true_or] at q2 this ⊢
   have q2 := q2 true
   simp only [Bool.true_or] at q2
   simp [q2]
   simpa using this
  | false =>
   have q3 := q2 (!isN x.prc)
   rw [g1] at q3
   have := ihb (!okBreak x) (fun h => ⟨rfl, by simpa using h⟩)
   simp [e2, q1, q3]
   simpa using this
theorem decl_Print_keeps (f : Fl) (hf : FlOk f) (hbk : Bk.sizes f.breaks <= 50000) (p2 s2 : Int) (rp rs : List (List V)) (p1 s1 : Int) : ∀ i : Nat, i <= f.keeps.length -> ∀ (ws : List (List UInt8)) (b : Bool), Okw ws b (f.keeps.length - i + (Bk.sizes f.breaks + f.watches.length)) ->
  decl_Print.L1_1_1_1_0_1_0 rp p1 p2 rs s1 s2 (f.keeps.map Kp.v) (f.keeps.length : Int) (i : Int) (f.pairs.map Pai.v) (f.sames.map Pai.v) (f.keeps.map Kp.v) (f.breaks.map Bk.v) (f.watches.map Wt.v) (sv ws) b = finF f (ws ++ (linesW keepW (f.keeps.drop i) ++ (linesW breakW f.breaks ++ linesW watchW f.watches))) (b || !(allK okKeep (f.keeps.drop i) && (allK okBreak f.breaks && allK okWatch f.watches))) := by
 refine down (fun ws b hw => ?_) fun i hi ih ws b hw => ?_
 ·have e := decl_Print_breaks f hf hbk p2 s2 (f.keeps.length : Int) rp rs (f.keeps.map Kp.v) p1 s1 (f.keeps.length : Int) 0 (Nat.zero_le _) ws b (by simpa using hw)
  rw [decl_Print.L1_1_1_1_0_1_0_eq]
  simp only [List.length_map, decide_eq_false (Int.lt_irrefl _), cond_false, List.drop_length, linesW, allK, Bool.true_and, List.nil_append]
  exact e
 ·have ho := hf.keeps.2 _ (List.getElem_mem hi)
  have hlw := hf.keeps.1
  have wr : IntKind.i64.wrap ((i : Int) + 1) = (i : Int) + 1 := wrap_in (by omega) (by omega)
  generalize hx : f.keeps[i] = x at ho
  have q1 := isName_is [x.prc, x.vr] (by simp) (by simpa using ⟨ho.prc, ho.vr⟩)
  have l0 := hw.1
  have q2 := fun b => names_is [[107, 101, 101, 112]] (by decide) (by decide) ws b (by omega)
  have q3 := fun b => wside_is (ws ++ [[107, 101, 101, 112]]) b x.side (by simp; omega)
  have q4 := fun b => names_is [x.prc, x.vr] (by simp) (by simpa using ⟨ho.prc, ho.vr⟩) (ws ++ [[107, 101, 101, 112], sideT x.side]) b (by simp; omega)
  have q5 := fun b => end_is (ws ++ [[107, 101, 101, 112], sideT x.side, x.prc, x.vr]) b (by simp; omega)
  have n1 : nb [[107, 101, 101, 112]] = false := by decide
  simp only [n1, Bool.or_false] at q2
  have e1 : ([[V.str (B [107, 101, 101, 112])]] : List (List V)) = sv [[107, 101, 101, 112]] := rfl
  have e2 : ([[V.str (B x.prc)], [V.str (B x.vr)]] : List (List V)) = sv [x.prc, x.vr] := rfl
  have ihb := fun (b' : Bool) (h : b' = false -> b = false ∧ okKeep x = true) => ih (ws ++ keepW x) b' (hw.step (c := 1) (by omega) (by simp [keepW]) (fun hb => ⟨(h hb).1, by have := keepW_weigh (h hb).2; omega⟩))
  simp only [Int.natCast_add, Int.natCast_one] at ihb
  rw [linesW_drop hi, allK_drop hi, hx, List.append_assoc, <- List.append_assoc ws]
  have hat : (f.keeps.map Kp.v).getD i [] = x.v := by rw [map_at _ _ _ hi, hx]
  have g0 : (b || !(okKeep x && allK okKeep (List.drop (i + 1) f.keeps) && (allK okBreak f.breaks && allK okWatch f.watches))) = (b || !okKeep x || !(allK okKeep (List.drop (i + 1) f.keeps) && (allK okBreak f.breaks && allK okWatch f.watches))) := by cases b <;> cases okKeep x <;> rfl
  rw [g0]
  have g1 : okKeep x = (isN x.prc && isN x.vr && sideK x.side) := rfl
  have g2 : isN x.prc = true -> isN x.vr = true -> nb [x.prc, x.vr] = false := fun h1 h2 => by simp [nb, h1, h2]
  unfold wD at *
  rw [decl_Print.L1_1_1_1_0_1_0_eq]
  simp only [List.length_map, decide_eq_true (show (i : Int) < (f.keeps.length : Int) by omega), cond_true, if_pos (in_row hi), Int.toNat_natCast, hat, Kp.v_0, Kp.v_1, Kp.v_2, asInt_int, asStr_str, wr]
  have ew : ws ++ [[107, 101, 101, 112], sideT x.side, x.prc, x.vr] ++ [[59]] = ws ++ keepW x := by simp [keepW]
  simp only [ew] at q5
  cases b with
  | true =>
   have := ihb true nofun
   simp [e1, e2, q2, q3, q4, q5]
   simpa using this
  | false =>
   cases c1 : isN x.prc with
   | false =>
    have := ihb true nofun
    simp [e1, e2, q1, q2, q3, q4, q5, c1]
    simpa [g1, c1] using this
   | true => cases c2 : isN x.vr with
    | false =>
     have := ihb true nofun
     simp [e1, e2, q1, q2, q3, q4, q5, c1, c2]
     simpa [g1, c1, c2] using this
    | true =>
     have := ihb (!sideK x.side) (fun h => ⟨rfl, by rw [g1, c1, c2]; simpa using h⟩)
     simp [e1, e2, q1, q2, q3, q4, q5, c1, c2, g2 c1 c2]
     simpa [g1, c1, c2] using this
theorem decl_Print_sames (f : Fl) (hf : FlOk f) (hbk : Bk.sizes f.breaks <= 50000) (p2 : Int) (rp : List (List V)) (p1 : Int) : ∀ i : Nat, i <= f.sames.length -> ∀ (ws : List (List UInt8)) (b : Bool), Okw ws b (f.sames.length - i + (f.keeps.length + (Bk.sizes f.breaks + f.watches.length))) ->
  decl_Print.L1_1_1_0_1_0 rp p1 p2 (f.sames.map Pai.v) (f.sames.length : Int) (i : Int) (f.pairs.map Pai.v) (f.sames.map Pai.v) (f.keeps.map Kp.v) (f.breaks.map Bk.v) (f.watches.map Wt.v) (sv ws) b = finF f (ws ++ (linesW sameW (f.sames.drop i) ++ (linesW keepW f.keeps ++ (linesW breakW f.breaks ++ linesW watchW f.watches)))) (b || !(allK okSame (f.sames.drop i) && (allK okKeep f.keeps && (allK okBreak f.breaks && allK okWatch f.watches)))) := by
 refine down (fun ws b hw => ?_) fun i hi ih ws b hw => ?_
 ·have e := decl_Print_keeps f hf hbk p2 (f.sames.length : Int) rp (f.sames.map Pai.v) p1 (f.sames.length : Int) 0 (Nat.zero_le _) ws b (by simpa using hw)
  rw [decl_Print.L1_1_1_0_1_0_eq]
  simp only [List.length_map, decide_eq_false (Int.lt_irrefl _), cond_false, List.drop_length, linesW, allK, Bool.true_and, List.nil_append]
  exact e
 ·have ho := hf.sames.2 _ (List.getElem_mem hi)
  have hlw := hf.sames.1
  have wr : IntKind.i64.wrap ((i : Int) + 1) = (i : Int) + 1 := wrap_in (by omega) (by omega)
  generalize hx : f.sames[i] = x at ho
  have q1 := isName_is [x.procA, x.varA, x.procB, x.varB] (by simp) (by simpa using ⟨ho.procA, ho.varA, ho.procB, ho.varB⟩)
  have l0 := hw.1
  have q2 := fun b => names_is [[115, 97, 109, 101], x.procA, [40], x.varA, [41], x.procB, [40], x.varB, [41]] (by simp) (by simpa using ⟨ho.procA, ho.varA, ho.procB, ho.varB⟩) ws b (by omega)
  have q5 := fun b => end_is (ws ++ [[115, 97, 109, 101], x.procA, [40], x.varA, [41], x.procB, [40], x.varB, [41]]) b (by simp; omega)
  have e1 : ([[V.str (B [115, 97, 109, 101])], [V.str (B x.procA)], [V.str (B [40])], [V.str (B x.varA)], [V.str (B [41])], [V.str (B x.procB)], [V.str (B [40])], [V.str (B x.varB)], [V.str (B [41])]] : List (List V)) = sv [[115, 97, 109, 101], x.procA, [40], x.varA, [41], x.procB, [40], x.varB, [41]] := rfl
  have e2 : ([[V.str (B x.procA)], [V.str (B x.varA)], [V.str (B x.procB)], [V.str (B x.varB)]] : List (List V)) = sv [x.procA, x.varA, x.procB, x.varB] := rfl
  have ihb := fun (b' : Bool) (h : b' = false -> b = false ∧ okSame x = true) => ih (ws ++ sameW x) b' (hw.step (c := 1) (by omega) (by simp [sameW]) (fun hb => ⟨(h hb).1, by have := sameW_weigh (h hb).2; omega⟩))
  simp only [Int.natCast_add, Int.natCast_one] at ihb
  rw [linesW_drop hi, allK_drop hi, hx, List.append_assoc, <- List.append_assoc ws]
  have hat : (f.sames.map Pai.v).getD i [] = x.v := by rw [map_at _ _ _ hi, hx]
  generalize hrest : (allK okKeep f.keeps && (allK okBreak f.breaks && allK okWatch f.watches)) = rest at ihb ⊢
  have g0 : (b || !(okSame x && allK okSame (List.drop (i + 1) f.sames) && rest)) = (b || !okSame x || !(allK okSame (List.drop (i + 1) f.sames) && rest)) := by cases b <;> cases okSame x <;> rfl
  rw [g0]
  have gs : isN [115, 97, 109, 101] = true := by decide
  have g1 : okSame x = (isN x.procA && isN x.procB && isN x.varA && isN x.varB) := rfl
  have g2 : okSame x = true -> nb [[115, 97, 109, 101], x.procA, [40], x.varA, [41], x.procB, [40], x.varB, [41]] = false := fun h => by
   rw [g1] at h
   simp only [Bool.and_eq_true] at h
   simp [nb, gs, h]
  have g3 : ([x.procA, x.varA, x.procB, x.varB].all isN) = okSame x := by
   rw [g1]; simp only [List.all_cons, List.all_nil, Bool.and_true]
   cases isN x.procA <;> cases isN x.procB <;> cases isN x.varA <;> rfl
  rw [g3] at q1
  unfold wD at *
  rw [decl_Print.L1_1_1_0_1_0_eq]
  simp only [List.length_map, decide_eq_true (show (i : Int) < (f.sames.length : Int) by omega), cond_true, if_pos (in_row hi), Int.toNat_natCast, hat, Pai.v_0, Pai.v_1, Pai.v_2, Pai.v_3, asInt_int, asStr_str, wr]
  have ew : ws ++ [[115, 97, 109, 101], x.procA, [40], x.varA, [41], x.procB, [40], x.varB, [41]] ++ [[59]] = ws ++ sameW x := by simp [sameW]
  simp only [ew] at q5
  cases b with
  | true =>
   have := ihb true nofun
   simp [e1, e2, q2, q5]
   simpa using this
  | false =>
   cases c1 : okSame x with
   | false =>
    have := ihb true nofun
    rw [c1] at q1
    simp [e1, e2, q1, q2, q5]
    simpa using this
   | true =>
    have := ihb false (fun _ => ⟨rfl, c1⟩)
    rw [c1] at q1
    simp [e1, e2, q1, q2, q5, g2 c1]
    simpa using this
theorem decl_Print_pairs (f : Fl) (hf : FlOk f) (hbk : Bk.sizes f.breaks <= 50000) : ∀ i : Nat, i <= f.pairs.length -> ∀ (ws : List (List UInt8)) (b : Bool), Okw ws b (f.pairs.length - i + (f.sames.length + (f.keeps.length + (Bk.sizes f.breaks + f.watches.length)))) ->
  decl_Print.L1_1_0_1_0 (f.pairs.map Pai.v) (f.pairs.length : Int) (i : Int) (f.pairs.map Pai.v) (f.sames.map Pai.v) (f.keeps.map Kp.v) (f.breaks.map Bk.v) (f.watches.map Wt.v) (sv ws) b = finF f (ws ++ (linesW pairW (f.pairs.drop i) ++ (linesW sameW f.sames ++ (linesW keepW f.keeps ++ (linesW breakW f.breaks ++ linesW watchW f.watches))))) (b || !(allK okPair (f.pairs.drop i) && (allK okSame f.sames && (allK okKeep f.keeps && (allK okBreak f.breaks && allK okWatch f.watches))))) := by
 refine down (fun ws b hw => ?_) fun i hi ih ws b hw => ?_
 ·have e := decl_Print_sames f hf hbk (f.pairs.length : Int) (f.pairs.map Pai.v) (f.pairs.length : Int) 0 (Nat.zero_le _) ws b (by simpa using hw)
  rw [decl_Print.L1_1_0_1_0_eq]
  simp only [List.length_map, decide_eq_false (Int.lt_irrefl _), cond_false, List.drop_length, linesW, allK, Bool.true_and, List.nil_append]
  exact e
 ·have ho := hf.pairs.2 _ (List.getElem_mem hi)
  have hlw := hf.pairs.1
  have wr : IntKind.i64.wrap ((i : Int) + 1) = (i : Int) + 1 := wrap_in (by omega) (by omega)
  generalize hx : f.pairs[i] = x at ho
  have q1 := isName_is [x.procA, x.procB] (by simp) (by simpa using ⟨ho.procA, ho.procB⟩)
  have l0 := hw.1
  have q2 := fun b => names_is [[112, 97, 105, 114], x.procA, x.procB] (by simp) (by simpa using ⟨ho.procA, ho.procB⟩) ws b (by omega)
  have q5 := fun b => end_is (ws ++ [[112, 97, 105, 114], x.procA, x.procB]) b (by simp; omega)
  have e1 : ([[V.str (B [112, 97, 105, 114])], [V.str (B x.procA)], [V.str (B x.procB)]] : List (List V)) = sv [[112, 97, 105, 114], x.procA, x.procB] := rfl
  have e2 : ([[V.str (B x.procA)], [V.str (B x.procB)]] : List (List V)) = sv [x.procA, x.procB] := rfl
  have e3 : ([V.str (B [112, 97, 105, 114])] :: sv [x.procA, x.procB] : List (List V)) = sv [[112, 97, 105, 114], x.procA, x.procB] := rfl
  have ihb := fun (b' : Bool) (h : b' = false -> b = false ∧ okPair x = true) => ih (ws ++ pairW x) b' (hw.step (c := 1) (by omega) (by simp [pairW]) (fun hb => ⟨(h hb).1, by have := pairW_weigh (h hb).2; omega⟩))
  simp only [Int.natCast_add, Int.natCast_one] at ihb
  rw [linesW_drop hi, allK_drop hi, hx, List.append_assoc, <- List.append_assoc ws]
  have hat : (f.pairs.map Pai.v).getD i [] = x.v := by rw [map_at _ _ _ hi, hx]
  generalize hrest : (allK okSame f.sames && (allK okKeep f.keeps && (allK okBreak f.breaks && allK okWatch f.watches))) = rest at ihb ⊢
  have g0 : (b || !(okPair x && allK okPair (List.drop (i + 1) f.pairs) && rest)) = (b || !okPair x || !(allK okPair (List.drop (i + 1) f.pairs) && rest)) := by cases b <;> cases okPair x <;> rfl
  rw [g0]
  have gs : isN [112, 97, 105, 114] = true := by decide
  have g1 : okPair x = (isN x.procA && isN x.procB && decide (x.varA = []) && decide (x.varB = [])) := rfl
  have g2 : okPair x = true -> nb [[112, 97, 105, 114], x.procA, x.procB] = false := fun h => by
   rw [g1] at h
   simp only [Bool.and_eq_true] at h
   simp [nb, gs, h]
  unfold wD at *
  rw [decl_Print.L1_1_0_1_0_eq]
  simp only [List.length_map, decide_eq_true (show (i : Int) < (f.pairs.length : Int) by omega), cond_true, if_pos (in_row hi), Int.toNat_natCast, hat, Pai.v_0, Pai.v_1, Pai.v_2, Pai.v_3, asInt_int, asStr_str, wr]
  have ew : ws ++ [[112, 97, 105, 114], x.procA, x.procB] ++ [[59]] = ws ++ pairW x := by simp [pairW]
  simp only [ew] at q5
  cases b with
  | true =>
   have := ihb true nofun
   simp [e1, e2, e3, q2, q5]
   simpa using this
  | false =>
   by_cases v1 : x.varA = []
   ·by_cases v2 : x.varB = []
    ·cases c1 : isN x.procA with
     | false =>
      have := ihb true nofun
      simp [e1, e2, e3, q1, q2, q5, v1, v2, c1]
      simpa [g1, c1] using this
     | true => cases c2 : isN x.procB with
      | false =>
       have := ihb true nofun
       simp [e1, e2, e3, q1, q2, q5, v1, v2, c1, c2]
       simpa [g1, c1, c2] using this
      | true =>
       have ok : okPair x = true := by simp [g1, v1, v2, c1, c2]
       have := ihb false (fun _ => ⟨rfl, ok⟩)
       simp [e1, e2, e3, q1, q2, q5, v1, v2, c1, c2, g2 ok]
       simpa [ok] using this
    ·have := ihb true nofun
     simp [e1, e2, e3, q2, q5, v1, v2]
     simpa [g1, v2] using this
   ·have := ihb true nofun
    simp [e1, e2, e3, q2, q5, v1]
    simpa [g1, v1] using this
theorem decl_Print_any (f : Fl) (hf : FlOk f) (hn : f.pairs.length + f.sames.length + f.keeps.length + f.watches.length + Bk.sizes f.breaks <= 50000) : den Sp decl_Print.id [.agg f.ov] [] none = some ⟨.ret (.tup [.str (B (prF f).1), .int .i64 (prF f).2]), [], none⟩ := by
 have e := decl_Print_pairs f hf (by omega) 0 (Nat.zero_le _) [] false ⟨by simp; omega, fun _ => by simp [weighW]; omega⟩
 simp only [List.drop_zero, Int.natCast_zero, sv_nil, List.nil_append, Bool.false_or] at e
 unfold Fl.ov
 rw [decl_Print.eq, List.length_map]
 refine e.trans ?_
 unfold finF prF okFile fileW
 cases (allK okPair f.pairs && (allK okSame f.sames && (allK okKeep f.keeps && (allK okBreak f.breaks && allK okWatch f.watches)))) with
 | false => rfl
 | true => cases longF f <;> rfl
def tk (l : List Tk) (k : Nat) : Tk := l.getD k ⟨0, [], 0, 0⟩
def isT (t : Tk) (s : List UInt8) : Bool := (decide (t.kind = 3) || decide (t.kind = 4)) && decide (t.text = s)
def opensT (t : Tk) : Bool := decide (t.kind = 1) || decide (t.kind = 2) || isT t [116, 114, 117, 101] || isT t [102, 97, 108, 115, 101] || isT t [40] || isT t [45] || isT t [33]
def levelT (s : List UInt8) : Int :=
 if s = [124, 124] then 1 else if s = [38, 38] then 2 else if s = [61, 61] then 3 else if s = [33, 61] then 3 else if s = [60] then 3 else if s = [60, 61] then 3
 else if s = [43] then 4 else if s = [45] then 4 else if s = [42] then 5 else if s = [47] then 5 else if s = [37] then 5 else 0
def signT (t : Tk) : Int := if t.kind = 4 then levelT t.text else 0
abbrev Rd := Except (Int × Int) (Ex × Nat)
def partR (l : List Tk) (d : Int) (k : Nat) (r : Rd) : Rd := if opensT (tk l k) = false then .error ((tk l k).at_, 30) else if 60 < d then .error ((tk l k).at_, 31) else r
def wantR (l : List Tk) (s : List UInt8) (r : Rd) (f : Ex -> Ex) : Rd := match r with
 | .error e => .error e
 | .ok (x, k) => if isT (tk l k) s then .ok (f x, k + 1) else .error ((tk l k).at_, 30)
mutual
def oneW (l : List Tk) (d : Int) (k : Nat) : Rd :=
 if hk : k < l.length then
  if isT (tk l k) [45] = true ∨ isT (tk l k) [33] = true then
   partR l (d + 1) (k + 1) (match oneW l (d + 1) (k + 1) with | .error e => .error e | .ok (x, j) => .ok (.mk 5 (tk l k).text 0 [x], j))
  else if isT (tk l k) [40] = true then wantR l [41] (partR l (d + 1) (k + 1) (tightW l 1 (d + 1) (k + 1))) id
  else if isT (tk l k) [116, 114, 117, 101] = true then .ok (.mk 2 [] 1 [], k + 1)
  else if isT (tk l k) [102, 97, 108, 115, 101] = true then .ok (.mk 2 [] 0 [], k + 1)
  else if (tk l k).kind = 2 then .ok (.mk 1 [] (tk l k).num [], k + 1)
  else if (tk l k).kind ≠ 1 then .error ((tk l k).at_, 30)
  else if isT (tk l (k + 1)) [91] = true then wantR l [93] (partR l (d + 1) (k + 2) (tightW l 1 (d + 1) (k + 2))) (fun x => .mk 4 (tk l k).text 0 [x])
  else .ok (.mk 3 (tk l k).text 0 [], k + 1)
 else .error (0, 0)
termination_by (l.length - k, 0)
def tightW (l : List Tk) (n d : Int) (k : Nat) : Rd :=
 match oneW l d k with
 | .error e => .error e
 | .ok (x, j) => if h : k < j ∧ k < l.length then loopW l n d 5 x j else .error (0, 0)
termination_by (l.length - k, 1)
def loopW (l : List Tk) (n d most : Int) (x : Ex) (k : Nat) : Rd :=
 if hk : k < l.length then
  if signT (tk l k) = 0 ∨ signT (tk l k) < n ∨ most < signT (tk l k) then .ok (x, k)
  else match tightW l (signT (tk l k) + 1) d (k + 1) with
   | .error e => .error e
   | .ok (y, j) => if h : k < j then loopW l n d (if signT (tk l k) = 3 then 2 else signT (tk l k)) (.mk 6 (tk l k).text 0 [x, y]) j else .error (0, 0)
 else .error (0, 0)
termination_by (l.length - k, 2)
decreasing_by all_goals (simp_wf; first | omega | (apply Prod.Lex.left; omega) | (apply Prod.Lex.right; omega))
end
structure Ended (l : List Tk) : Prop where
 last : ∀ k, k < l.length -> ((tk l k).kind = 0 ↔ k + 1 = l.length)
theorem isT_kind {t : Tk} {s : List UInt8} (h : isT t s = true) : t.kind = 3 ∨ t.kind = 4 := by
 unfold isT at h
 simp only [Bool.and_eq_true, Bool.or_eq_true, decide_eq_true_eq] at h
 exact h.1
theorem Ended.next {l : List Tk} (hl : Ended l) {k : Nat} (hk : k < l.length) (h : (tk l k).kind ≠ 0) : k + 1 < l.length := by
 have := mt (hl.last k hk).2 h
 omega
theorem Ended.isT {l : List Tk} (hl : Ended l) {k : Nat} {s : List UInt8} (hk : k < l.length) (h : isT (tk l k) s = true) : k + 1 < l.length :=
 hl.next hk (by rcases isT_kind h with h | h <;> omega)
theorem partR_ok {l : List Tk} {d : Int} {k : Nat} {r : Rd} {x : Ex × Nat} (h : partR l d k r = .ok x) : r = .ok x := by
 unfold partR at h
 split at h
 ·cases h
 ·split at h
  ·cases h
  ·exact h
theorem wantR_ok {l : List Tk} {s : List UInt8} {r : Rd} {f : Ex -> Ex} {x : Ex × Nat} (h : wantR l s r f = .ok x) : ∃ y k, r = .ok (y, k) ∧ isT (tk l k) s = true ∧ x = (f y, k + 1) := by
 unfold wantR at h
 split at h
 ·cases h
 ·rename_i y k
  split at h
  ·rename_i c; exact ⟨y, k, rfl, c, (Except.ok.inj h).symm⟩
  ·cases h
theorem goes {l : List Tk} (hl : Ended l) : ∀ m k : Nat, l.length - k <= m -> k < l.length ->
  (∀ d x j, oneW l d k = .ok (x, j) -> k < j ∧ j < l.length) ∧ (∀ n d x j, tightW l n d k = .ok (x, j) -> k < j ∧ j < l.length) ∧ (∀ n d p y x j, loopW l n d p y k = .ok (x, j) -> k <= j ∧ j < l.length) := by
 intro m
 induction m with
 | zero => intro k h1 h2; omega
 | succ m ih =>
  intro k hm hk
  have one : ∀ d x j, oneW l d k = .ok (x, j) -> k < j ∧ j < l.length := by
   intro d x j h
   rw [oneW, dif_pos hk] at h
   split at h
   ·rename_i c
    have hk1 : k + 1 < l.length := by rcases c with c | c <;> exact hl.isT hk c
    have h := partR_ok h
    split at h
    ·cases h
    ·rename_i y i hy
     have := (ih (k + 1) (by omega) hk1).1 _ _ _ hy
     cases h; omega
   split at h
   ·rename_i c
    have hk1 := hl.isT hk c
    obtain ⟨y, i, h1, h2, h3⟩ := wantR_ok h
    have := (ih (k + 1) (by omega) hk1).2.1 _ _ _ _ (partR_ok h1)
    have := hl.isT this.2 h2
    cases h3; omega
   split at h
   ·rename_i c; have := hl.isT hk c; cases h; omega
   split at h
   ·rename_i c; have := hl.isT hk c; cases h; omega
   split at h
   ·rename_i c; have := hl.next hk (by omega); cases h; omega
   split at h
   ·cases h
   have hk1 : k + 1 < l.length := hl.next hk (by omega)
   split at h
   ·rename_i c
    have hk2 := hl.isT hk1 c
    obtain ⟨y, i, h1, h2, h3⟩ := wantR_ok h
    have := (ih (k + 2) (by omega) hk2).2.1 _ _ _ _ (partR_ok h1)
    have := hl.isT this.2 h2
    cases h3; omega
   ·cases h; omega
  have loop : ∀ n d p y x j, loopW l n d p y k = .ok (x, j) -> k <= j ∧ j < l.length := by
   intro n d p y x j h
   rw [loopW, dif_pos hk] at h
   split at h
   ·cases h; omega
   ·rename_i c
    have hk1 : k + 1 < l.length := hl.next hk (by
     intro h0; apply c; left; unfold signT; rw [if_neg (by omega)])
    split at h
    ·cases h
    ·rename_i z i hz
     have h1 := (ih (k + 1) (by omega) hk1).2.1 _ _ _ _ hz
     split at h
     ·have := (ih i (by omega) h1.2).2.2 _ _ _ _ _ _ h
      omega
     ·cases h
  refine ⟨one, fun n d x j h => ?_, loop⟩
  rw [tightW] at h
  split at h
  ·cases h
  ·rename_i y i hy
   have h1 := one _ _ _ hy
   split at h
   ·have := (ih i (by omega) h1.2).2.2 _ _ _ _ _ _ h
    omega
   ·cases h
theorem one_goes {l : List Tk} (hl : Ended l) {k : Nat} (hk : k < l.length) {d : Int} {x : Ex} {j : Nat} (h : oneW l d k = .ok (x, j)) : k < j ∧ j < l.length := (goes hl _ k (Nat.le_refl _) hk).1 _ _ _ h
theorem tight_goes {l : List Tk} (hl : Ended l) {k : Nat} (hk : k < l.length) {n d : Int} {x : Ex} {j : Nat} (h : tightW l n d k = .ok (x, j)) : k < j ∧ j < l.length := (goes hl _ k (Nat.le_refl _) hk).2.1 _ _ _ _ h
def levW (l : List Tk) (n d : Int) (x : Ex) (k : Nat) : Rd :=
 if hk : k < l.length then
  if signT (tk l k) ≠ n then .ok (x, k)
  else match tightW l (n + 1) d (k + 1) with
   | .error e => .error e
   | .ok (y, j) => if n = 3 then .ok (.mk 6 (tk l k).text 0 [x, y], j) else if h : k < j then levW l n d (.mk 6 (tk l k).text 0 [x, y]) j else .error (0, 0)
 else .error (0, 0)
termination_by l.length - k
def thenR (r : Rd) (f : Ex -> Nat -> Rd) : Rd := match r with | .error e => .error e | .ok (x, k) => f x k
theorem loop_lev {l : List Tk} (hl : Ended l) (n d : Int) (hn : 1 <= n) : ∀ m k : Nat, l.length - k <= m -> k < l.length -> ∀ (p : Int) (x : Ex), n <= p -> loopW l n d p x k = thenR (loopW l (n + 1) d p x k) (fun y j => levW l n d y j) := by
 intro m
 induction m with
 | zero => intro k h1 h2; omega
 | succ m ih =>
  intro k hm hk p x hp
  rw [loopW, loopW, dif_pos hk, dif_pos hk]
  by_cases c : signT (tk l k) = 0 ∨ signT (tk l k) < n ∨ p < signT (tk l k)
  ·rw [if_pos c, if_pos (by omega)]
   show _ = levW l n d x k
   rw [levW, dif_pos hk, if_pos (by omega)]
  ·rw [if_neg c]
   have hk1 : k + 1 < l.length := hl.next hk (by
    intro h0; apply c; left; unfold signT; rw [if_neg (by omega)])
   by_cases ct : signT (tk l k) = n
   ·rw [if_pos (show signT (tk l k) = 0 ∨ signT (tk l k) < n + 1 ∨ p < signT (tk l k) by omega)]
    show _ = levW l n d x k
    rw [levW, dif_pos hk, ct, if_neg (show ¬ n ≠ n from fun h => h rfl)]
    cases hy : tightW l (n + 1) d (k + 1) with
    | error e => rfl
    | ok r =>
     obtain ⟨y, j⟩ := r
     have hj := tight_goes hl hk1 hy
     simp only
     rw [dif_pos (show k < j by omega)]
     by_cases h3 : n = 3
     ·rw [if_pos h3, if_pos h3, loopW, dif_pos hj.2, if_pos (by omega)]
     ·rw [if_neg h3, if_neg h3, dif_pos (show k < j by omega), ih j (by omega) hj.2 n _ (Int.le_refl _)]
      rw [loopW, dif_pos hj.2, if_pos (by omega)]; rfl
   ·rw [if_neg (show ¬ (signT (tk l k) = 0 ∨ signT (tk l k) < n + 1 ∨ p < signT (tk l k)) by omega)]
    cases hy : tightW l (signT (tk l k) + 1) d (k + 1) with
    | error e => rfl
    | ok r =>
     obtain ⟨y, j⟩ := r
     have hj := tight_goes hl hk1 hy
     simp only
     rw [dif_pos (show k < j by omega), dif_pos (show k < j by omega)]
     exact ih j (by omega) hj.2 (if signT (tk l k) = 3 then 2 else signT (tk l k)) _ (by split <;> omega)
theorem tight_lev {l : List Tk} (hl : Ended l) {k : Nat} (hk : k < l.length) (n d : Int) (hn : 1 <= n) (hn5 : n <= 5) : tightW l n d k = thenR (tightW l (n + 1) d k) (fun y j => levW l n d y j) := by
 rw [tightW, tightW]
 cases hy : oneW l d k with
 | error e => rfl
 | ok r =>
  obtain ⟨x, j⟩ := r
  have hj := one_goes hl hk hy
  simp only
  rw [dif_pos ⟨hj.1, hk⟩, dif_pos ⟨hj.1, hk⟩]
  exact loop_lev hl n d hn _ j (Nat.le_refl _) hj.2 5 x hn5
theorem level_le (s : List UInt8) : 0 <= levelT s ∧ levelT s <= 5 := by
 unfold levelT
 repeat' (split; · omega)
 omega
theorem signT_le (t : Tk) : 0 <= signT t ∧ signT t <= 5 := by
 unfold signT
 split
 ·exact level_le _
 ·omega
theorem tight_one {l : List Tk} (hl : Ended l) {k : Nat} (hk : k < l.length) (d : Int) : tightW l 6 d k = oneW l d k := by
 rw [tightW]
 cases hy : oneW l d k with
 | error e => rfl
 | ok r =>
  obtain ⟨x, j⟩ := r
  have hj := one_goes hl hk hy
  have := signT_le (tk l j)
  simp only
  rw [dif_pos ⟨hj.1, hk⟩, loopW, dif_pos hj.2, if_pos (by omega)]
def isW (t : Tk) (s : List UInt8) : Bool := decide (t.kind = 1) && decide (t.text = s)
def isS (t : Tk) (s : List UInt8) : Bool := decide (t.kind = 4) && decide (t.text = s)
abbrev Rf (α : Type) := Except (Int × Int) (α × Nat)
def andR {α β : Type} (r : Rf α) (f : α -> Nat -> Rf β) : Rf β := match r with | .error e => .error e | .ok (x, k) => f x k
def wrongR {α : Type} (l : List Tk) (k : Nat) : Rf α := .error ((tk l k).at_, 30)
def nameR (l : List Tk) (k : Nat) : Rf (List UInt8) := if (tk l k).kind = 1 then .ok ((tk l k).text, k + 1) else wrongR l k
def signR (l : List Tk) (s : List UInt8) (k : Nat) : Rf Unit := if isS (tk l k) s then .ok ((), k + 1) else wrongR l k
def sideR (l : List Tk) (k : Nat) : Rf Int := if isW (tk l k) [108, 101, 102, 116] then .ok (0, k + 1) else if isW (tk l k) [114, 105, 103, 104, 116] then .ok (1, k + 1) else wrongR l k
def intR (l : List Tk) (k : Nat) : Rf Int := if (tk l k).kind = 2 then .ok ((tk l k).num, k + 1) else wrongR l k
def halfR (l : List Tk) (k : Nat) : Rf (List UInt8 × List UInt8) :=
 andR (nameR l k) fun p k => andR (signR l [40] k) fun _ k => andR (nameR l k) fun v k => andR (signR l [41] k) fun _ k => .ok ((p, v), k)
def sameR (l : List Tk) (k : Nat) : Rf Pai := andR (halfR l k) fun x k => andR (halfR l k) fun y k => .ok (⟨x.1, y.1, x.2, y.2⟩, k)
def whenR (l : List Tk) (k : Nat) : Rf (List Ex) :=
 if isW (tk l k) [119, 104, 101, 110] then andR (partR l 1 (k + 1) (tightW l 1 1 (k + 1))) fun x k => .ok ([x], k) else .ok ([], k)
def stopR (l : List Tk) (k : Nat) : Rf Bk := andR (sideR l k) fun s k => andR (nameR l k) fun p k => andR (intR l k) fun n k => andR (whenR l k) fun w k => .ok (⟨s, p, n, w⟩, k)
def keepR (l : List Tk) (k : Nat) : Rf (Int × List UInt8 × List UInt8) := andR (sideR l k) fun s k => andR (nameR l k) fun p k => andR (nameR l k) fun v k => .ok ((s, p, v), k)
def fullR {α : Type} (l : List Tk) (n most k : Nat) (r : Rf α) : Rf α := if most <= n then .error ((tk l k).at_, 2) else r
def itemR (l : List Tk) (f : Fl) (k : Nat) : Rf Fl :=
 if isW (tk l k) [112, 97, 105, 114] then fullR l f.pairs.length 40 k (andR (nameR l (k + 1)) fun a k => andR (nameR l k) fun b k => .ok ({ f with pairs := f.pairs ++ [⟨a, b, [], []⟩] }, k))
 else if isW (tk l k) [115, 97, 109, 101] then fullR l f.sames.length 40 k (andR (sameR l (k + 1)) fun p k => .ok ({ f with sames := f.sames ++ [p] }, k))
 else if isW (tk l k) [107, 101, 101, 112] then fullR l f.keeps.length 40 k (andR (keepR l (k + 1)) fun x k => .ok ({ f with keeps := f.keeps ++ [⟨x.1, x.2.1, x.2.2⟩] }, k))
 else if isW (tk l k) [98, 114, 101, 97, 107] then fullR l f.breaks.length 40 k (andR (stopR l (k + 1)) fun b k => .ok ({ f with breaks := f.breaks ++ [b] }, k))
 else if isW (tk l k) [119, 97, 116, 99, 104] then fullR l f.watches.length 40 k (andR (keepR l (k + 1)) fun x k => .ok ({ f with watches := f.watches ++ [⟨x.1, x.2.1, x.2.2⟩] }, k))
 else wrongR l k
def lineR (l : List Tk) (f : Fl) (k : Nat) : Rf Fl := andR (itemR l f k) fun f k => andR (signR l [59] k) fun _ k => .ok (f, k)
def fileR (l : List Tk) : Nat -> Fl -> Nat -> Except (Int × Int) Fl
 | 0, _, _ => .error (0, 0)
 | n + 1, f, k => if (tk l k).kind = 0 then .ok f else match lineR l f k with | .error e => .error e | .ok (g, j) => fileR l n g j
def emptyF : Fl := ⟨[], [], [], [], []⟩
def toldF (r : Except (Int × Int) Fl) : Fl × Int × Int := match r with | .error e => (emptyF, e.1, e.2) | .ok f => (f, 0, 0)
def parseF (s : List UInt8) : Fl × Int × Int :=
 if (scan s).2.2 ≠ 0 then (emptyF, (scan s).2.1, (scan s).2.2)
 else toldF (fileR (scan s).1 ((scan s).1.length + 1) emptyF 0)
theorem andR_ok {α β : Type} {r : Rf α} {f : α -> Nat -> Rf β} {y : β × Nat} (h : andR r f = .ok y) : ∃ x k, r = .ok (x, k) ∧ f x k = .ok y := by
 unfold andR at h
 split at h
 ·cases h
 ·rename_i x k; exact ⟨x, k, rfl, h⟩
structure Step (l : List Tk) (k j : Nat) : Prop where
 lt : k < j
 end_ : j < l.length
variable {l : List Tk}
theorem nameR_step (hl : Ended l) {k : Nat} (hk : k < l.length) {x : List UInt8} {j : Nat} (h : nameR l k = .ok (x, j)) : Step l k j ∧ (tk l k).kind = 1 ∧ x = (tk l k).text ∧ j = k + 1 := by
 unfold nameR at h
 split at h
 ·rename_i c
  have := hl.next hk (by omega)
  cases h; exact ⟨⟨by omega, this⟩, c, rfl, rfl⟩
 ·cases h
theorem signR_step (hl : Ended l) {k : Nat} (hk : k < l.length) {s : List UInt8} {x : Unit} {j : Nat} (h : signR l s k = .ok (x, j)) : Step l k j ∧ isS (tk l k) s = true ∧ j = k + 1 := by
 unfold signR at h
 split at h
 ·rename_i c
  have hk4 : (tk l k).kind = 4 := by
   unfold isS at c
   simp only [Bool.and_eq_true, decide_eq_true_eq] at c
   exact c.1
  have := hl.next hk (by omega)
  cases h; exact ⟨⟨by omega, this⟩, c, rfl⟩
 ·cases h
theorem isW_kind {t : Tk} {s : List UInt8} (h : isW t s = true) : t.kind = 1 ∧ t.text = s := by
 unfold isW at h
 simpa only [Bool.and_eq_true, decide_eq_true_eq] using h
theorem sideR_step (hl : Ended l) {k : Nat} (hk : k < l.length) {x : Int} {j : Nat} (h : sideR l k = .ok (x, j)) : Step l k j ∧ (tk l k).kind = 1 ∧ (x = 0 ∨ x = 1) ∧ j = k + 1 := by
 unfold sideR at h
 split at h
 ·rename_i c
  have := hl.next hk (by rw [(isW_kind c).1]; decide)
  cases h; exact ⟨⟨by omega, this⟩, (isW_kind c).1, .inl rfl, rfl⟩
 split at h
 ·rename_i c
  have := hl.next hk (by rw [(isW_kind c).1]; decide)
  cases h; exact ⟨⟨by omega, this⟩, (isW_kind c).1, .inr rfl, rfl⟩
 ·cases h
theorem intR_step (hl : Ended l) {k : Nat} (hk : k < l.length) {x : Int} {j : Nat} (h : intR l k = .ok (x, j)) : Step l k j ∧ (tk l k).kind = 2 ∧ x = (tk l k).num ∧ j = k + 1 := by
 unfold intR at h
 split at h
 ·rename_i c
  have := hl.next hk (by omega)
  cases h; exact ⟨⟨by omega, this⟩, c, rfl, rfl⟩
 ·cases h
end Go.Proofs.YtmhnmelaodhemaaDoor
namespace Go.Proofs.YtmhnmelaodhemaaDoor
open Go Go.Proofs.Ab Go.Proofs.Px
theorem tok_g {l : List Tk} {k : Nat} (h : k < l.length) : (l.map Tk.v).getD k [] = (tk l k).v := by
 unfold tk
 rw [List.getD_eq_getElem?_getD, List.getD_eq_getElem?_getD, List.getElem?_map, List.getElem?_eq_getElem h]; rfl
theorem tkv_0 (t : Tk) : t.v.getD 0 .undef = .int .i64 t.kind := rfl
theorem tkv_1 (t : Tk) : t.v.getD 1 .undef = .str (B t.text) := rfl
theorem tkv_2 (t : Tk) : t.v.getD 2 .undef = .int .i64 t.num := rfl
theorem tkv_3 (t : Tk) : t.v.getD 3 .undef = .int .i64 t.at_ := rfl
theorem row_in {l : List Tk} {k : Nat} (h : k < l.length) : (0 : Int) <= (k : Int) ∧ (k : Int) < (((l.map Tk.v).length : Nat) : Int) := ⟨by omega, by rw [List.length_map]; omega⟩
theorem wr1 {k : Nat} (h : k < 1099511627776) : IntKind.i64.wrap ((k : Int) + 1) = ((k + 1 : Nat) : Int) := by rw [wrap_in (by omega) (by omega)]; omega
theorem lx : (∀ (x : Ex) (k : (Nat -> V) -> Option Res), V.asAgg (.agg x.v) 4 k = k (fun j => x.v.getD j .undef)) ∧ (∀ x : Ex, x.v.getD 0 .undef = .int .i64 x.kind) ∧ (∀ x : Ex, x.v.getD 1 .undef = .str (B x.name)) ∧ (∀ x : Ex, x.v.getD 2 .undef = .int .i64 x.num) ∧
 (∀ x : Ex, x.v.getD 3 .undef = .sl .no T_api_Expr (x.l.map Ex.v)) ∧ (∀ x : Ex, [V.int .i64 x.kind, V.str (B x.name), V.int .i64 x.num, V.sl .no T_api_Expr (x.l.map Ex.v)] = x.v) := ⟨asAgg_ex, Ex.v_0, Ex.v_1, Ex.v_2, Ex.v_3, Ex.v_list⟩
end Go.Proofs.YtmhnmelaodhemaaDoor
namespace Go.Proofs.YtmhnmelaodhemaaDoor
open Go Go.Proofs.Ab
namespace decl_reader_fail
theorem eq (m0_0 : List (List V)) (m0_1 a1 : Int) : den Sp id [V.ref 0 0, V.int .i64 a1] [Blk.cells T_decl_reader [V.sl .no T_api_Token m0_0, V.int .i64 m0_1] false] none =
  (if (((0 : Int) <= m0_1) ∧ (m0_1 < (m0_0.length : Int))) then (V.asInt (List.getD (List.getD m0_0 (Int.toNat m0_1) []) 3 V.undef) .i64 (fun n4 => some ⟨Out.pan (V.iface T_decl_given (V.agg [V.int .i64 n4, V.int .i64 a1])), [Blk.cells T_decl_reader [V.sl .no T_api_Token m0_0, V.int .i64 m0_1] false], none⟩)) else none) := (den_eq ..).trans (by kernel_rfl)
end decl_reader_fail
namespace decl_reader_word
theorem eq (m0_0 : List (List V)) (m0_1 : Int) (a1 : ByteArray) : den Sp id [V.ref 0 0, V.str a1] [Blk.cells T_decl_reader [V.sl .no T_api_Token m0_0, V.int .i64 m0_1] false] none =
  (if (((0 : Int) <= m0_1) ∧ (m0_1 < (m0_0.length : Int))) then (V.asInt (List.getD (List.getD m0_0 (Int.toNat m0_1) []) 0 V.undef) .i64 (fun n5 => bif (n5 == (1 : Int)) then (if (((0 : Int) <= m0_1) ∧ (m0_1 < (m0_0.length : Int))) then (V.asStr (List.getD (List.getD m0_0 (Int.toNat m0_1) []) 1 V.undef) (fun s6 => some ⟨Out.ret (V.bool (decide (s6 = a1))), [Blk.cells T_decl_reader [V.sl .no T_api_Token m0_0, V.int .i64 m0_1] false], none⟩)) else none) else (some ⟨Out.ret (V.bool false), [Blk.cells T_decl_reader [V.sl .no T_api_Token m0_0, V.int .i64 m0_1] false], none⟩))) else none) := (den_eq ..).trans (by kernel_rfl)
end decl_reader_word
namespace decl_reader_full
theorem eq (m0_0 : List (List V)) (m0_1 a1 a2 a3 : Int) : den Sp id [V.ref 0 0, V.int .i64 a1, V.int .i64 a2, V.int .i64 a3] [Blk.cells T_decl_reader [V.sl .no T_api_Token m0_0, V.int .i64 m0_1] false] none =
  (bif (decide (a2 >= a3)) then (if (((0 : Int) <= a1) ∧ (a1 < (m0_0.length : Int))) then (V.asInt (List.getD (List.getD m0_0 (Int.toNat a1) []) 3 V.undef) .i64 (fun n7 => some ⟨Out.pan (V.iface T_decl_given (V.agg [V.int .i64 n7, V.int .i64 (2 : Int)])), [Blk.cells T_decl_reader [V.sl .no T_api_Token m0_0, V.int .i64 m0_1] false], none⟩)) else none) else (some ⟨Out.ret (V.tup []), [Blk.cells T_decl_reader [V.sl .no T_api_Token m0_0, V.int .i64 m0_1] false], none⟩)) := (den_eq ..).trans (by kernel_rfl)
end decl_reader_full
namespace decl_reader_name
theorem eq (m0_0 : List (List V)) (m0_1 : Int) : den Sp id [V.ref 0 0] [Blk.cells T_decl_reader [V.sl .no T_api_Token m0_0, V.int .i64 m0_1] false] none =
  (if (((0 : Int) <= m0_1) ∧ (m0_1 < (m0_0.length : Int))) then (V.asInt (List.getD (List.getD m0_0 (Int.toNat m0_1) []) 0 V.undef) .i64 (fun n4 => V.asStr (List.getD (List.getD m0_0 (Int.toNat m0_1) []) 1 V.undef) (fun s5 => V.asInt (List.getD (List.getD m0_0 (Int.toNat m0_1) []) 2 V.undef) .i64 (fun n6 => V.asInt (List.getD (List.getD m0_0 (Int.toNat m0_1) []) 3 V.undef) .i64 (fun n7 => bif (n4 != (1 : Int)) then (den Sp decl_reader_fail.id [V.ref 0 0, V.int .i64 (30 : Int)] [Blk.cells T_decl_reader [V.sl .no T_api_Token m0_0, V.int .i64 m0_1] false] none).bind (fun r10 => Blk.asCells (List.getD (Res.bl r10) 0 (Blk.cells T_n0 [] true)) T_decl_reader 2 (fun rd11 => V.asSl (rd11 0) T_api_Token (fun es12 => V.asInt (rd11 1) .i64 (fun n13 => Res.onOut r10 (fun v14 => V.asTup v14 0 (fun rd15 => some ⟨Out.ret (V.str s5), [Blk.cells T_decl_reader [V.sl .no T_api_Token es12, V.int .i64 (IntKind.wrap .i64 (n13 + (1 : Int)))] false], none⟩)) (fun v14 => V.asIface v14 T_decl_given (fun w15 => V.asAgg w15 2 (fun rd16 => V.asInt (rd16 0) .i64 (fun n17 => V.asInt (rd16 1) .i64 (fun n18 => some ⟨Out.pan (V.iface T_decl_given (V.agg [V.int .i64 n17, V.int .i64 n18])), [Blk.cells T_decl_reader [V.sl .no T_api_Token es12, V.int .i64 n13] false], none⟩))))))))) else (some ⟨Out.ret (V.str s5), [Blk.cells T_decl_reader [V.sl .no T_api_Token m0_0, V.int .i64 (IntKind.wrap .i64 (m0_1 + (1 : Int)))] false], none⟩)))))) else none) := (den_eq ..).trans (by kernel_rfl)
end decl_reader_name
namespace decl_reader_side
theorem eq (m0_0 : List (List V)) (m0_1 : Int) : den Sp id [V.ref 0 0] [Blk.cells T_decl_reader [V.sl .no T_api_Token m0_0, V.int .i64 m0_1] false] none =
  (den Sp decl_reader_word.id [V.ref 0 0, V.str (ByteArray.mk #[108, 101, 102, 116])] [Blk.cells T_decl_reader [V.sl .no T_api_Token m0_0, V.int .i64 m0_1] false] none).bind (fun r5 => Blk.asCells (List.getD (Res.bl r5) 0 (Blk.cells T_n0 [] true)) T_decl_reader 2 (fun rd6 => V.asSl (rd6 0) T_api_Token (fun es7 => V.asInt (rd6 1) .i64 (fun n8 => Res.onRet r5 (fun v9 => V.asBool v9 (fun b10 => bif b10 then (some ⟨Out.ret (V.int .i64 (0 : Int)), [Blk.cells T_decl_reader [V.sl .no T_api_Token es7, V.int .i64 (IntKind.wrap .i64 (n8 + (1 : Int)))] false], none⟩) else (den Sp decl_reader_word.id [V.ref 0 0, V.str (ByteArray.mk #[114, 105, 103, 104, 116])] [Blk.cells T_decl_reader [V.sl .no T_api_Token es7, V.int .i64 n8] false] none).bind (fun r12 => Blk.asCells (List.getD (Res.bl r12) 0 (Blk.cells T_n0 [] true)) T_decl_reader 2 (fun rd13 => V.asSl (rd13 0) T_api_Token (fun es14 => V.asInt (rd13 1) .i64 (fun n15 => Res.onRet r12 (fun v16 => V.asBool v16 (fun b17 => bif b17 then (some ⟨Out.ret (V.int .i64 (1 : Int)), [Blk.cells T_decl_reader [V.sl .no T_api_Token es14, V.int .i64 (IntKind.wrap .i64 (n15 + (1 : Int)))] false], none⟩) else (den Sp decl_reader_fail.id [V.ref 0 0, V.int .i64 (30 : Int)] [Blk.cells T_decl_reader [V.sl .no T_api_Token es14, V.int .i64 n15] false] none).bind (fun r19 => Blk.asCells (List.getD (Res.bl r19) 0 (Blk.cells T_n0 [] true)) T_decl_reader 2 (fun rd20 => V.asSl (rd20 0) T_api_Token (fun es21 => V.asInt (rd20 1) .i64 (fun n22 => Res.onOut r19 (fun v23 => V.asTup v23 0 (fun rd24 => some ⟨Out.ret (V.int .i64 (0 : Int)), [Blk.cells T_decl_reader [V.sl .no T_api_Token es21, V.int .i64 (IntKind.wrap .i64 (n22 + (1 : Int)))] false], none⟩)) (fun v23 => V.asIface v23 T_decl_given (fun w24 => V.asAgg w24 2 (fun rd25 => V.asInt (rd25 0) .i64 (fun n26 => V.asInt (rd25 1) .i64 (fun n27 => some ⟨Out.pan (V.iface T_decl_given (V.agg [V.int .i64 n26, V.int .i64 n27])), [Blk.cells T_decl_reader [V.sl .no T_api_Token es21, V.int .i64 n22] false], none⟩))))))))))))))))))))) := (den_eq ..).trans (by kernel_rfl)
end decl_reader_side
namespace decl_reader_sign
theorem eq (m0_0 : List (List V)) (m0_1 : Int) (a1 : ByteArray) : den Sp id [V.ref 0 0, V.str a1] [Blk.cells T_decl_reader [V.sl .no T_api_Token m0_0, V.int .i64 m0_1] false] none =
  (if (((0 : Int) <= m0_1) ∧ (m0_1 < (m0_0.length : Int))) then (V.asInt (List.getD (List.getD m0_0 (Int.toNat m0_1) []) 0 V.undef) .i64 (fun n4 => V.asStr (List.getD (List.getD m0_0 (Int.toNat m0_1) []) 1 V.undef) (fun s5 => V.asInt (List.getD (List.getD m0_0 (Int.toNat m0_1) []) 2 V.undef) .i64 (fun n6 => V.asInt (List.getD (List.getD m0_0 (Int.toNat m0_1) []) 3 V.undef) .i64 (fun n7 => bif (n4 != (4 : Int)) then (den Sp decl_reader_fail.id [V.ref 0 0, V.int .i64 (30 : Int)] [Blk.cells T_decl_reader [V.sl .no T_api_Token m0_0, V.int .i64 m0_1] false] none).bind (fun r10 => Blk.asCells (List.getD (Res.bl r10) 0 (Blk.cells T_n0 [] true)) T_decl_reader 2 (fun rd11 => V.asSl (rd11 0) T_api_Token (fun es12 => V.asInt (rd11 1) .i64 (fun n13 => Res.onOut r10 (fun v14 => V.asTup v14 0 (fun rd15 => some ⟨Out.ret (V.tup []), [Blk.cells T_decl_reader [V.sl .no T_api_Token es12, V.int .i64 (IntKind.wrap .i64 (n13 + (1 : Int)))] false], none⟩)) (fun v14 => V.asIface v14 T_decl_given (fun w15 => V.asAgg w15 2 (fun rd16 => V.asInt (rd16 0) .i64 (fun n17 => V.asInt (rd16 1) .i64 (fun n18 => some ⟨Out.pan (V.iface T_decl_given (V.agg [V.int .i64 n17, V.int .i64 n18])), [Blk.cells T_decl_reader [V.sl .no T_api_Token es12, V.int .i64 n13] false], none⟩))))))))) else (bif (!(decide (s5 = a1))) then (den Sp decl_reader_fail.id [V.ref 0 0, V.int .i64 (30 : Int)] [Blk.cells T_decl_reader [V.sl .no T_api_Token m0_0, V.int .i64 m0_1] false] none).bind (fun r10 => Blk.asCells (List.getD (Res.bl r10) 0 (Blk.cells T_n0 [] true)) T_decl_reader 2 (fun rd11 => V.asSl (rd11 0) T_api_Token (fun es12 => V.asInt (rd11 1) .i64 (fun n13 => Res.onOut r10 (fun v14 => V.asTup v14 0 (fun rd15 => some ⟨Out.ret (V.tup []), [Blk.cells T_decl_reader [V.sl .no T_api_Token es12, V.int .i64 (IntKind.wrap .i64 (n13 + (1 : Int)))] false], none⟩)) (fun v14 => V.asIface v14 T_decl_given (fun w15 => V.asAgg w15 2 (fun rd16 => V.asInt (rd16 0) .i64 (fun n17 => V.asInt (rd16 1) .i64 (fun n18 => some ⟨Out.pan (V.iface T_decl_given (V.agg [V.int .i64 n17, V.int .i64 n18])), [Blk.cells T_decl_reader [V.sl .no T_api_Token es12, V.int .i64 n13] false], none⟩))))))))) else (some ⟨Out.ret (V.tup []), [Blk.cells T_decl_reader [V.sl .no T_api_Token m0_0, V.int .i64 (IntKind.wrap .i64 (m0_1 + (1 : Int)))] false], none⟩))))))) else none) := (den_eq ..).trans (by kernel_rfl)
end decl_reader_sign
namespace decl_reader_same
theorem eq (m0_0 : List (List V)) (m0_1 : Int) : den Sp id [V.ref 0 0] [Blk.cells T_decl_reader [V.sl .no T_api_Token m0_0, V.int .i64 m0_1] false] none =
  (den Sp decl_reader_name.id [V.ref 0 0] [Blk.cells T_decl_reader [V.sl .no T_api_Token m0_0, V.int .i64 m0_1] false] none).bind (fun r8 => Blk.asCells (List.getD (Res.bl r8) 0 (Blk.cells T_n0 [] true)) T_decl_reader 2 (fun rd9 => V.asSl (rd9 0) T_api_Token (fun es10 => V.asInt (rd9 1) .i64 (fun n11 => Res.onOut r8 (fun v12 => V.asStr v12 (fun s13 => (den Sp decl_reader_sign.id [V.ref 0 0, V.str (ByteArray.mk #[40])] [Blk.cells T_decl_reader [V.sl .no T_api_Token es10, V.int .i64 n11] false] none).bind (fun r15 => Blk.asCells (List.getD (Res.bl r15) 0 (Blk.cells T_n0 [] true)) T_decl_reader 2 (fun rd16 => V.asSl (rd16 0) T_api_Token (fun es17 => V.asInt (rd16 1) .i64 (fun n18 => Res.onOut r15 (fun v19 => V.asTup v19 0 (fun rd20 => (den Sp decl_reader_name.id [V.ref 0 0] [Blk.cells T_decl_reader [V.sl .no T_api_Token es17, V.int .i64 n18] false] none).bind (fun r22 => Blk.asCells (List.getD (Res.bl r22) 0 (Blk.cells T_n0 [] true)) T_decl_reader 2 (fun rd23 => V.asSl (rd23 0) T_api_Token (fun es24 => V.asInt (rd23 1) .i64 (fun n25 => Res.onOut r22 (fun v26 => V.asStr v26 (fun s27 => (den Sp decl_reader_sign.id [V.ref 0 0, V.str (ByteArray.mk #[41])] [Blk.cells T_decl_reader [V.sl .no T_api_Token es24, V.int .i64 n25] false] none).bind (fun r29 => Blk.asCells (List.getD (Res.bl r29) 0 (Blk.cells T_n0 [] true)) T_decl_reader 2 (fun rd30 => V.asSl (rd30 0) T_api_Token (fun es31 => V.asInt (rd30 1) .i64 (fun n32 => Res.onOut r29 (fun v33 => V.asTup v33 0 (fun rd34 => (den Sp decl_reader_name.id [V.ref 0 0] [Blk.cells T_decl_reader [V.sl .no T_api_Token es31, V.int .i64 n32] false] none).bind (fun r39 => Blk.asCells (List.getD (Res.bl r39) 0 (Blk.cells T_n0 [] true)) T_decl_reader 2 (fun rd40 => V.asSl (rd40 0) T_api_Token (fun es41 => V.asInt (rd40 1) .i64 (fun n42 => Res.onOut r39 (fun v43 => V.asStr v43 (fun s44 => (den Sp decl_reader_sign.id [V.ref 0 0, V.str (ByteArray.mk #[40])] [Blk.cells T_decl_reader [V.sl .no T_api_Token es41, V.int .i64 n42] false] none).bind (fun r46 => Blk.asCells (List.getD (Res.bl r46) 0 (Blk.cells T_n0 [] true)) T_decl_reader 2 (fun rd47 => V.asSl (rd47 0) T_api_Token (fun es48 => V.asInt (rd47 1) .i64 (fun n49 => Res.onOut r46 (fun v50 => V.asTup v50 0 (fun rd51 => (den Sp decl_reader_name.id [V.ref 0 0] [Blk.cells T_decl_reader [V.sl .no T_api_Token es48, V.int .i64 n49] false] none).bind (fun r53 => Blk.asCells (List.getD (Res.bl r53) 0 (Blk.cells T_n0 [] true)) T_decl_reader 2 (fun rd54 => V.asSl (rd54 0) T_api_Token (fun es55 => V.asInt (rd54 1) .i64 (fun n56 => Res.onOut r53 (fun v57 => V.asStr v57 (fun s58 => (den Sp decl_reader_sign.id [V.ref 0 0, V.str (ByteArray.mk #[41])] [Blk.cells T_decl_reader [V.sl .no T_api_Token es55, V.int .i64 n56] false] none).bind (fun r60 => Blk.asCells (List.getD (Res.bl r60) 0 (Blk.cells T_n0 [] true)) T_decl_reader 2 (fun rd61 => V.asSl (rd61 0) T_api_Token (fun es62 => V.asInt (rd61 1) .i64 (fun n63 => Res.onOut r60 (fun v64 => V.asTup v64 0 (fun rd65 => some ⟨Out.ret (V.agg [V.str s13, V.str s44, V.str s27, V.str s58]), [Blk.cells T_decl_reader [V.sl .no T_api_Token es62, V.int .i64 n63] false], none⟩)) (fun v64 => V.asIface v64 T_decl_given (fun w65 => V.asAgg w65 2 (fun rd66 => V.asInt (rd66 0) .i64 (fun n67 => V.asInt (rd66 1) .i64 (fun n68 => some ⟨Out.pan (V.iface T_decl_given (V.agg [V.int .i64 n67, V.int .i64 n68])), [Blk.cells T_decl_reader [V.sl .no T_api_Token es62, V.int .i64 n63] false], none⟩))))))))))) (fun v57 => V.asIface v57 T_decl_given (fun w58 => V.asAgg w58 2 (fun rd59 => V.asInt (rd59 0) .i64 (fun n60 => V.asInt (rd59 1) .i64 (fun n61 => some ⟨Out.pan (V.iface T_decl_given (V.agg [V.int .i64 n60, V.int .i64 n61])), [Blk.cells T_decl_reader [V.sl .no T_api_Token es55, V.int .i64 n56] false], none⟩))))))))))) (fun v50 => V.asIface v50 T_decl_given (fun w51 => V.asAgg w51 2 (fun rd52 => V.asInt (rd52 0) .i64 (fun n53 => V.asInt (rd52 1) .i64 (fun n54 => some ⟨Out.pan (V.iface T_decl_given (V.agg [V.int .i64 n53, V.int .i64 n54])), [Blk.cells T_decl_reader [V.sl .no T_api_Token es48, V.int .i64 n49] false], none⟩))))))))))) (fun v43 => V.asIface v43 T_decl_given (fun w44 => V.asAgg w44 2 (fun rd45 => V.asInt (rd45 0) .i64 (fun n46 => V.asInt (rd45 1) .i64 (fun n47 => some ⟨Out.pan (V.iface T_decl_given (V.agg [V.int .i64 n46, V.int .i64 n47])), [Blk.cells T_decl_reader [V.sl .no T_api_Token es41, V.int .i64 n42] false], none⟩))))))))))) (fun v33 => V.asIface v33 T_decl_given (fun w34 => V.asAgg w34 2 (fun rd35 => V.asInt (rd35 0) .i64 (fun n36 => V.asInt (rd35 1) .i64 (fun n37 => some ⟨Out.pan (V.iface T_decl_given (V.agg [V.int .i64 n36, V.int .i64 n37])), [Blk.cells T_decl_reader [V.sl .no T_api_Token es31, V.int .i64 n32] false], none⟩))))))))))) (fun v26 => V.asIface v26 T_decl_given (fun w27 => V.asAgg w27 2 (fun rd28 => V.asInt (rd28 0) .i64 (fun n29 => V.asInt (rd28 1) .i64 (fun n30 => some ⟨Out.pan (V.iface T_decl_given (V.agg [V.int .i64 n29, V.int .i64 n30])), [Blk.cells T_decl_reader [V.sl .no T_api_Token es24, V.int .i64 n25] false], none⟩))))))))))) (fun v19 => V.asIface v19 T_decl_given (fun w20 => V.asAgg w20 2 (fun rd21 => V.asInt (rd21 0) .i64 (fun n22 => V.asInt (rd21 1) .i64 (fun n23 => some ⟨Out.pan (V.iface T_decl_given (V.agg [V.int .i64 n22, V.int .i64 n23])), [Blk.cells T_decl_reader [V.sl .no T_api_Token es17, V.int .i64 n18] false], none⟩))))))))))) (fun v12 => V.asIface v12 T_decl_given (fun w13 => V.asAgg w13 2 (fun rd14 => V.asInt (rd14 0) .i64 (fun n15 => V.asInt (rd14 1) .i64 (fun n16 => some ⟨Out.pan (V.iface T_decl_given (V.agg [V.int .i64 n15, V.int .i64 n16])), [Blk.cells T_decl_reader [V.sl .no T_api_Token es10, V.int .i64 n11] false], none⟩))))))))) := (den_eq ..).trans (by kernel_rfl)
end decl_reader_same
namespace decl_reader_stop
theorem eq (m0_0 : List (List V)) (m0_1 : Int) : den Sp id [V.ref 0 0] [Blk.cells T_decl_reader [V.sl .no T_api_Token m0_0, V.int .i64 m0_1] false] none =
  (den Sp decl_reader_side.id [V.ref 0 0] [Blk.cells T_decl_reader [V.sl .no T_api_Token m0_0, V.int .i64 m0_1] false] none).bind (fun r4 => Blk.asCells (List.getD (Res.bl r4) 0 (Blk.cells T_n0 [] true)) T_decl_reader 2 (fun rd5 => V.asSl (rd5 0) T_api_Token (fun es6 => V.asInt (rd5 1) .i64 (fun n7 => Res.onOut r4 (fun v8 => V.asInt v8 .i64 (fun n9 => (den Sp decl_reader_name.id [V.ref 0 0] [Blk.cells T_decl_reader [V.sl .no T_api_Token es6, V.int .i64 n7] false] none).bind (fun r10 => Blk.asCells (List.getD (Res.bl r10) 0 (Blk.cells T_n0 [] true)) T_decl_reader 2 (fun rd11 => V.asSl (rd11 0) T_api_Token (fun es12 => V.asInt (rd11 1) .i64 (fun n13 => Res.onOut r10 (fun v14 => V.asStr v14 (fun s15 => if (((0 : Int) <= n13) ∧ (n13 < (es12.length : Int))) then (V.asInt (List.getD (List.getD es12 (Int.toNat n13) []) 0 V.undef) .i64 (fun n17 => V.asStr (List.getD (List.getD es12 (Int.toNat n13) []) 1 V.undef) (fun s18 => V.asInt (List.getD (List.getD es12 (Int.toNat n13) []) 2 V.undef) .i64 (fun n19 => V.asInt (List.getD (List.getD es12 (Int.toNat n13) []) 3 V.undef) .i64 (fun n20 => bif (n17 != (2 : Int)) then (den Sp decl_reader_fail.id [V.ref 0 0, V.int .i64 (30 : Int)] [Blk.cells T_decl_reader [V.sl .no T_api_Token es12, V.int .i64 n13] false] none).bind (fun r23 => Blk.asCells (List.getD (Res.bl r23) 0 (Blk.cells T_n0 [] true)) T_decl_reader 2 (fun rd24 => V.asSl (rd24 0) T_api_Token (fun es25 => V.asInt (rd24 1) .i64 (fun n26 => Res.onOut r23 (fun v27 => V.asTup v27 0 (fun rd28 => (den Sp decl_reader_word.id [V.ref 0 0, V.str (ByteArray.mk #[119, 104, 101, 110])] [Blk.cells T_decl_reader [V.sl .no T_api_Token es25, V.int .i64 (IntKind.wrap .i64 (n26 + (1 : Int)))] false] none).bind (fun r32 => Blk.asCells (List.getD (Res.bl r32) 0 (Blk.cells T_n0 [] true)) T_decl_reader 2 (fun rd33 => V.asSl (rd33 0) T_api_Token (fun es34 => V.asInt (rd33 1) .i64 (fun n35 => Res.onRet r32 (fun v36 => V.asBool v36 (fun b37 => bif b37 then (den Sp syntax_ReadExpr.id [V.sl .no T_api_Token es34, V.int .i64 (IntKind.wrap .i64 (n35 + (1 : Int)))] [] none).bind (fun r40 => Res.onRet r40 (fun v41 => V.asTup v41 4 (fun rd42 => V.asAgg (rd42 0) 4 (fun rd43 => V.asInt (rd43 0) .i64 (fun n44 => V.asStr (rd43 1) (fun s45 => V.asInt (rd43 2) .i64 (fun n46 => V.asSl (rd43 3) T_api_Expr (fun es47 => V.asInt (rd42 1) .i64 (fun n48 => V.asInt (rd42 2) .i64 (fun n49 => V.asInt (rd42 3) .i64 (fun n50 => bif (n50 != (0 : Int)) then (some ⟨Out.pan (V.iface T_decl_given (V.agg [V.int .i64 n49, V.int .i64 n50])), [Blk.cells T_decl_reader [V.sl .no T_api_Token es34, V.int .i64 (IntKind.wrap .i64 (n35 + (1 : Int)))] false], none⟩) else (some ⟨Out.ret (V.agg [V.int .i64 n9, V.str s15, V.int .i64 n19, V.sl .no T_api_Expr [[V.int .i64 n44, V.str s45, V.int .i64 n46, V.sl .no T_api_Expr es47]]]), [Blk.cells T_decl_reader [V.sl .no T_api_Token es34, V.int .i64 n48] false], none⟩)))))))))))) else (some ⟨Out.ret (V.agg [V.int .i64 n9, V.str s15, V.int .i64 n19, V.sl .no T_api_Expr []]), [Blk.cells T_decl_reader [V.sl .no T_api_Token es34, V.int .i64 n35] false], none⟩))))))))) (fun v27 => V.asIface v27 T_decl_given (fun w28 => V.asAgg w28 2 (fun rd29 => V.asInt (rd29 0) .i64 (fun n30 => V.asInt (rd29 1) .i64 (fun n31 => some ⟨Out.pan (V.iface T_decl_given (V.agg [V.int .i64 n30, V.int .i64 n31])), [Blk.cells T_decl_reader [V.sl .no T_api_Token es25, V.int .i64 n26] false], none⟩))))))))) else (den Sp decl_reader_word.id [V.ref 0 0, V.str (ByteArray.mk #[119, 104, 101, 110])] [Blk.cells T_decl_reader [V.sl .no T_api_Token es12, V.int .i64 (IntKind.wrap .i64 (n13 + (1 : Int)))] false] none).bind (fun r25 => Blk.asCells (List.getD (Res.bl r25) 0 (Blk.cells T_n0 [] true)) T_decl_reader 2 (fun rd26 => V.asSl (rd26 0) T_api_Token (fun es27 => V.asInt (rd26 1) .i64 (fun n28 => Res.onRet r25 (fun v29 => V.asBool v29 (fun b30 => bif b30 then (den Sp syntax_ReadExpr.id [V.sl .no T_api_Token es27, V.int .i64 (IntKind.wrap .i64 (n28 + (1 : Int)))] [] none).bind (fun r33 => Res.onRet r33 (fun v34 => V.asTup v34 4 (fun rd35 => V.asAgg (rd35 0) 4 (fun rd36 => V.asInt (rd36 0) .i64 (fun n37 => V.asStr (rd36 1) (fun s38 => V.asInt (rd36 2) .i64 (fun n39 => V.asSl (rd36 3) T_api_Expr (fun es40 => V.asInt (rd35 1) .i64 (fun n41 => V.asInt (rd35 2) .i64 (fun n42 => V.asInt (rd35 3) .i64 (fun n43 => bif (n43 != (0 : Int)) then (some ⟨Out.pan (V.iface T_decl_given (V.agg [V.int .i64 n42, V.int .i64 n43])), [Blk.cells T_decl_reader [V.sl .no T_api_Token es27, V.int .i64 (IntKind.wrap .i64 (n28 + (1 : Int)))] false], none⟩) else (some ⟨Out.ret (V.agg [V.int .i64 n9, V.str s15, V.int .i64 n19, V.sl .no T_api_Expr [[V.int .i64 n37, V.str s38, V.int .i64 n39, V.sl .no T_api_Expr es40]]]), [Blk.cells T_decl_reader [V.sl .no T_api_Token es27, V.int .i64 n41] false], none⟩)))))))))))) else (some ⟨Out.ret (V.agg [V.int .i64 n9, V.str s15, V.int .i64 n19, V.sl .no T_api_Expr []]), [Blk.cells T_decl_reader [V.sl .no T_api_Token es27, V.int .i64 n28] false], none⟩)))))))))))) else none)) (fun v14 => V.asIface v14 T_decl_given (fun w15 => V.asAgg w15 2 (fun rd16 => V.asInt (rd16 0) .i64 (fun n17 => V.asInt (rd16 1) .i64 (fun n18 => some ⟨Out.pan (V.iface T_decl_given (V.agg [V.int .i64 n17, V.int .i64 n18])), [Blk.cells T_decl_reader [V.sl .no T_api_Token es12, V.int .i64 n13] false], none⟩))))))))))) (fun v8 => V.asIface v8 T_decl_given (fun w9 => V.asAgg w9 2 (fun rd10 => V.asInt (rd10 0) .i64 (fun n11 => V.asInt (rd10 1) .i64 (fun n12 => some ⟨Out.pan (V.iface T_decl_given (V.agg [V.int .i64 n11, V.int .i64 n12])), [Blk.cells T_decl_reader [V.sl .no T_api_Token es6, V.int .i64 n7] false], none⟩))))))))) := (den_eq ..).trans (by kernel_rfl)
end decl_reader_stop
end Go.Proofs.YtmhnmelaodhemaaDoor
namespace Go.Proofs.YtmhnmelaodhemaaDoor
open Go Go.Proofs.Ab Go.Proofs.Px
def rd2 (l : List Tk) (k : Nat) : Blk := .cells T_decl_reader [.sl .no T_api_Token (l.map Tk.v), .int .i64 k] false
def givenD (e : Int × Int) : V := .iface T_decl_given (.agg [.int .i64 e.1, .int .i64 e.2])
def RdD {α : Type} (l : List Tk) (v : α -> V) (r : Rf α) (o : Option Res) : Prop := match r with
 | .ok (x, j) => o = some ⟨.ret (v x), [rd2 l j], none⟩
 | .error e => ∃ j : Nat, o = some ⟨.pan (givenD e), [rd2 l j], none⟩
section
variable {l : List Tk} (hl : Ended l) (hn : l.length <= 100000)
include hl hn
theorem fail_d {k : Nat} (hk : k < l.length) (e : Int) : den Sp decl_reader_fail.id [.ref 0 0, .int .i64 e] [rd2 l k] none = some ⟨.pan (givenD ((tk l k).at_, e)), [rd2 l k], none⟩ := by
 unfold rd2 givenD
 rw [decl_reader_fail.eq, if_pos (row_in hk), Int.toNat_natCast, tok_g hk, tkv_3, asInt_int]
theorem word_d {k : Nat} (hk : k < l.length) (s : List UInt8) : den Sp decl_reader_word.id [.ref 0 0, .str (B s)] [rd2 l k] none = some ⟨.ret (.bool (isW (tk l k) s)), [rd2 l k], none⟩ := by
 unfold rd2 isW
 rw [decl_reader_word.eq]
 simp only [if_pos (row_in hk), Int.toNat_natCast, tok_g hk, tkv_0, tkv_1, asInt_int, asStr_str]
 by_cases c : (tk l k).kind = 1
 ·rw [c]; simp
 ·have : ((tk l k).kind == 1) = false := beq_eq_false_iff_ne.2 c
  rw [this]; simp [c]
theorem full_d {k : Nat} (j : Nat) (hk : j < l.length) (n most : Nat) : RdD l (fun _ : Unit => .tup []) (if most <= n then .error ((tk l j).at_, 2) else .ok ((), k)) (den Sp decl_reader_full.id [.ref 0 0, .int .i64 j, .int .i64 n, .int .i64 most] [rd2 l k] none) := by
 unfold RdD rd2 givenD
 rw [decl_reader_full.eq]
 by_cases c : most <= n
 ·have : decide ((n : Int) >= (most : Int)) = true := decide_eq_true (by omega)
  rw [if_pos c, this, cond_true]
  simp only
  refine ⟨k, ?_⟩
  simp only [if_pos (row_in hk), Int.toNat_natCast, tok_g hk, tkv_3, asInt_int]
 ·have : decide ((n : Int) >= (most : Int)) = false := decide_eq_false (by omega)
  rw [if_neg c, this, cond_false]
theorem name_d {k : Nat} (hk : k < l.length) : RdD l (fun s => .str (B s)) (nameR l k) (den Sp decl_reader_name.id [.ref 0 0] [rd2 l k] none) := by
 have hf := fail_d hl hn hk 30
 unfold RdD nameR wrongR rd2 givenD at *
 rw [decl_reader_name.eq]
 simp only [if_pos (row_in hk), Int.toNat_natCast, tok_g hk, tkv_0, tkv_1, tkv_2, tkv_3, asInt_int, asStr_str, wr1 (show k < 1099511627776 by omega)]
 by_cases c : (tk l k).kind = 1
 ·rw [c]; simp
 ·have : ((tk l k).kind != 1) = true := by simpa using c
  rw [this, if_neg c]
  refine ⟨k, ?_⟩
  simp [hf]
theorem sign_d {k : Nat} (hk : k < l.length) (s : List UInt8) : RdD l (fun _ => .tup []) (signR l s k) (den Sp decl_reader_sign.id [.ref 0 0, .str (B s)] [rd2 l k] none) := by
 have hf := fail_d hl hn hk 30
 unfold RdD signR wrongR rd2 givenD isS at *
 rw [decl_reader_sign.eq]
 simp only [if_pos (row_in hk), Int.toNat_natCast, tok_g hk, tkv_0, tkv_1, tkv_2, tkv_3, asInt_int, asStr_str, wr1 (show k < 1099511627776 by omega)]
 by_cases c : (tk l k).kind = 4
 ·by_cases c2 : (tk l k).text = s
  ·rw [c, c2]; simp
  ·have h1 : (decide ((tk l k).kind = 4) && decide ((tk l k).text = s)) = false := by simp [c2]
   rw [h1, c, if_neg (by simp)]
   refine ⟨k, ?_⟩
   simp [hf, c2]
 ·have h1 : (decide ((tk l k).kind = 4) && decide ((tk l k).text = s)) = false := by simp [c]
  have : ((tk l k).kind != 4) = true := by simpa using c
  rw [h1, this, if_neg (by simp)]
  refine ⟨k, ?_⟩
  simp [hf]
theorem side_d {k : Nat} (hk : k < l.length) : RdD l (fun n => .int .i64 n) (sideR l k) (den Sp decl_reader_side.id [.ref 0 0] [rd2 l k] none) := by
 have hf := fail_d hl hn hk 30
 have h1 := word_d hl hn hk [108, 101, 102, 116]
 have h2 := word_d hl hn hk [114, 105, 103, 104, 116]
 unfold RdD sideR wrongR rd2 givenD at *
 rw [decl_reader_side.eq]
 have w := wr1 (show k < 1099511627776 by omega)
 cases c1 : isW (tk l k) [108, 101, 102, 116] with
 | true =>
  rw [c1] at h1
  simp [h1, w]
 | false =>
  rw [c1] at h1
  cases c2 : isW (tk l k) [114, 105, 103, 104, 116] with
  | true =>
   rw [c2] at h2
   simp [h1, h2, w]
  | false =>
   rw [c2] at h2
   refine ⟨k, ?_⟩
   simp [h1, h2, hf]
theorem same_d {k : Nat} (hk : k < l.length) : RdD l (fun p : Pai => .agg p.v) (sameR l k) (den Sp decl_reader_same.id [.ref 0 0] [rd2 l k] none) := by
 have hN := fun (k : Nat) (hk : k < l.length) => name_d hl hn hk
 have hS1 := fun (k : Nat) (hk : k < l.length) => sign_d hl hn hk [40]
 have hS2 := fun (k : Nat) (hk : k < l.length) => sign_d hl hn hk [41]
 unfold sameR halfR
 unfold RdD rd2 givenD at *
 rw [decl_reader_same.eq]
 have h1 := hN k hk
 cases c1 : nameR l k with
 | error e => rw [c1] at h1; obtain ⟨j, h1⟩ := h1; exact ⟨j, by simp [h1]⟩
 | ok r1 =>
 obtain ⟨x1, k1⟩ := r1
 rw [c1] at h1
 have s1 := (nameR_step hl hk c1).1.end_
 have h2 := hS1 k1 s1
 simp only [andR]
 cases c2 : signR l [40] k1 with
 | error e => rw [c2] at h2; obtain ⟨j, h2⟩ := h2; exact ⟨j, by simp [h1, h2]⟩
 | ok r2 =>
 obtain ⟨_, k2⟩ := r2
 rw [c2] at h2
 have s2 := (signR_step hl s1 c2).1.end_
 have h3 := hN k2 s2
 simp only [andR]
 cases c3 : nameR l k2 with
 | error e => rw [c3] at h3; obtain ⟨j, h3⟩ := h3; exact ⟨j, by simp [h1, h2, h3]⟩
 | ok r3 =>
 obtain ⟨x3, k3⟩ := r3
 rw [c3] at h3
 have s3 := (nameR_step hl s2 c3).1.end_
 have h4 := hS2 k3 s3
 simp only [andR]
 cases c4 : signR l [41] k3 with
 | error e => rw [c4] at h4; obtain ⟨j, h4⟩ := h4; exact ⟨j, by simp [h1, h2, h3, h4]⟩
 | ok r4 =>
 obtain ⟨_, k4⟩ := r4
 rw [c4] at h4
 have s4 := (signR_step hl s3 c4).1.end_
 have h5 := hN k4 s4
 simp only [andR]
 cases c5 : nameR l k4 with
 | error e => rw [c5] at h5; obtain ⟨j, h5⟩ := h5; exact ⟨j, by simp [h1, h2, h3, h4, h5]⟩
 | ok r5 =>
 obtain ⟨x5, k5⟩ := r5
 rw [c5] at h5
 have s5 := (nameR_step hl s4 c5).1.end_
 have h6 := hS1 k5 s5
 simp only [andR]
 cases c6 : signR l [40] k5 with
 | error e => rw [c6] at h6; obtain ⟨j, h6⟩ := h6; exact ⟨j, by simp [h1, h2, h3, h4, h5, h6]⟩
 | ok r6 =>
 obtain ⟨_, k6⟩ := r6
 rw [c6] at h6
 have s6 := (signR_step hl s5 c6).1.end_
 have h7 := hN k6 s6
 simp only [andR]
 cases c7 : nameR l k6 with
 | error e => rw [c7] at h7; obtain ⟨j, h7⟩ := h7; exact ⟨j, by simp [h1, h2, h3, h4, h5, h6, h7]⟩
 | ok r7 =>
 obtain ⟨x7, k7⟩ := r7
 rw [c7] at h7
 have s7 := (nameR_step hl s6 c7).1.end_
 have h8 := hS2 k7 s7
 simp only [andR]
 cases c8 : signR l [41] k7 with
 | error e => rw [c8] at h8; obtain ⟨j, h8⟩ := h8; exact ⟨j, by simp [h1, h2, h3, h4, h5, h6, h7, h8]⟩
 | ok r8 =>
 obtain ⟨_, k8⟩ := r8
 rw [c8] at h8
 simp [h1, h2, h3, h4, h5, h6, h7, h8, Pai.v]
end
def readE (l : List Tk) (k : Nat) : Option Res := match partR l 1 k (tightW l 1 1 k) with
 | .ok (x, j) => some ⟨.ret (.tup [.agg x.v, .int .i64 j, .int .i64 0, .int .i64 0]), [], none⟩
 | .error e => some ⟨.ret (.tup [.agg (Ex.v (.mk 0 [] 0 [])), .int .i64 0, .int .i64 e.1, .int .i64 e.2]), [], none⟩
def ReadsE (f : Nat) (l : List Tk) : Prop := ∀ k, k < l.length -> den Sp f [.sl .no T_api_Token (l.map Tk.v), .int .i64 (k : Int)] [] none = readE l k
end Go.Proofs.YtmhnmelaodhemaaDoor
namespace Go.Proofs.Ab
open Go
section
variable {R : Type}
theorem bind_h {α β : Type} {a b : Option α} {f : α -> Option β} (h : a = b) : a.bind f = b.bind f := by rw [h]
theorem asInt_h {v w : V} {kd : IntKind} {k : Int -> Option R} (h : v = w) : v.asInt kd k = w.asInt kd k := by rw [h]
theorem asBool_h {v w : V} {k : Bool -> Option R} (h : v = w) : v.asBool k = w.asBool k := by rw [h]
theorem asStr_h {v w : V} {k : ByteArray -> Option R} (h : v = w) : v.asStr k = w.asStr k := by rw [h]
theorem asSl_h {v w : V} {e : TypeId} {k : List (List V) -> Option R} (h : v = w) : v.asSl e k = w.asSl e k := by rw [h]
theorem asSlR_h {v w : V} {p : Nat} {e : TypeId} {k : List (List V) -> Option R} (h : v = w) : v.asSlR p e k = w.asSlR p e k := by rw [h]
theorem asAgg_h {v w : V} {n : Nat} {k : (Nat -> V) -> Option R} (h : v = w) : v.asAgg n k = w.asAgg n k := by rw [h]
theorem asTup_h {v w : V} {n : Nat} {k : (Nat -> V) -> Option R} (h : v = w) : v.asTup n k = w.asTup n k := by rw [h]
theorem asIface_h {v w : V} {t : TypeId} {k : V -> Option R} (h : v = w) : v.asIface t k = w.asIface t k := by rw [h]
theorem asCells_h {b c : Blk} {t : TypeId} {n : Nat} {k : (Nat -> V) -> Option R} (h : b = c) : b.asCells t n k = c.asCells t n k := by rw [h]
theorem onRet_h {r s : Res} {k : V -> Option R} (h : r = s) : r.onRet k = s.onRet k := by rw [h]
theorem onOut_h {r s : Res} {k kp : V -> Option R} (h : r = s) : r.onOut k kp = s.onOut k kp := by rw [h]
theorem cond_h {α : Type} {b c : Bool} {x y : α} (h : b = c) : cond b x y = cond c x y := by rw [h]
end
theorem lz : (∀ l : List UInt8, ByteArray.mk l.toArray = Px.B l) ∧
 (∀ (r : Res) (f : Res -> Option Res), (some r).bind f = f r) ∧
 (∀ (o : Out) (bl : List Blk) (pn : Option (Option V)), Res.bl ⟨o, bl, pn⟩ = bl) ∧
 (∀ {α : Type} (a : α) (l : List α) (d : α), (a :: l).getD 0 d = a) ∧
 (∀ {α : Type} (a : α) (l : List α) (n : Nat) (d : α), (a :: l).getD (n + 1) d = l.getD n d) ∧
 (∀ (t : TypeId) (x0 : V) (k : (Nat -> V) -> Option Res), Blk.asCells (.cells t [x0] false) t 1 k = k (fun j => List.getD [x0] j .undef)) ∧
 (∀ (t : TypeId) (x0 : V) (x1 : V) (k : (Nat -> V) -> Option Res), Blk.asCells (.cells t [x0, x1] false) t 2 k = k (fun j => List.getD [x0, x1] j .undef)) ∧
 (∀ (t : TypeId) (x0 : V) (x1 : V) (x2 : V) (k : (Nat -> V) -> Option Res), Blk.asCells (.cells t [x0, x1, x2] false) t 3 k = k (fun j => List.getD [x0, x1, x2] j .undef)) ∧
 (∀ (t : TypeId) (x0 : V) (x1 : V) (x2 : V) (x3 : V) (k : (Nat -> V) -> Option Res), Blk.asCells (.cells t [x0, x1, x2, x3] false) t 4 k = k (fun j => List.getD [x0, x1, x2, x3] j .undef)) ∧
 (∀ (t : TypeId) (x0 : V) (x1 : V) (x2 : V) (x3 : V) (x4 : V) (k : (Nat -> V) -> Option Res), Blk.asCells (.cells t [x0, x1, x2, x3, x4] false) t 5 k = k (fun j => List.getD [x0, x1, x2, x3, x4] j .undef)) ∧
 (∀ (t : TypeId) (x0 : V) (x1 : V) (x2 : V) (x3 : V) (x4 : V) (x5 : V) (k : (Nat -> V) -> Option Res), Blk.asCells (.cells t [x0, x1, x2, x3, x4, x5] false) t 6 k = k (fun j => List.getD [x0, x1, x2, x3, x4, x5] j .undef)) ∧
 (∀ (t : TypeId) (x0 : V) (x1 : V) (x2 : V) (x3 : V) (x4 : V) (x5 : V) (x6 : V) (k : (Nat -> V) -> Option Res), Blk.asCells (.cells t [x0, x1, x2, x3, x4, x5, x6] false) t 7 k = k (fun j => List.getD [x0, x1, x2, x3, x4, x5, x6] j .undef)) ∧
 (∀ (t : Tok) (e : TypeId) (es : List (List V)) (k : List (List V) -> Option Res), V.asSl (.sl t e es) e k = k es) ∧
 (∀ (p : Nat) (e : TypeId) (es : List (List V)) (k : List (List V) -> Option Res), V.asSlR (.sl (.row p) e es) p e k = k es) ∧
 (∀ (kd : IntKind) (n : Int) (k : Int -> Option Res), V.asInt (.int kd n) kd k = k n) ∧
 (∀ (s : ByteArray) (k : ByteArray -> Option Res), V.asStr (.str s) k = k s) ∧
 (∀ (b : Bool) (k : Bool -> Option Res), V.asBool (.bool b) k = k b) ∧
 (∀ (v : V) (bl : List Blk) (pn : Option (Option V)) (k : V -> Option Res), Res.onRet ⟨.ret v, bl, pn⟩ k = k v) ∧
 (∀ (v : V) (bl : List Blk) (pn : Option (Option V)) (k kp : V -> Option Res), Res.onOut ⟨.ret v, bl, pn⟩ k kp = k v) ∧
 (∀ (v : V) (bl : List Blk) (pn : Option (Option V)) (k kp : V -> Option Res), Res.onOut ⟨.pan v, bl, pn⟩ k kp = kp v) ∧
 (∀ (t : TypeId) (v : V) (k : V -> Option Res), V.asIface (.iface t v) t k = k v) ∧
 (∀ k : (Nat -> V) -> Option Res, V.asTup (.tup []) 0 k = k (fun j => List.getD [] j .undef)) ∧
 (∀ (x0 : V) (x1 : V) (k : (Nat -> V) -> Option Res), V.asAgg (.agg [x0, x1]) 2 k = k (fun j => List.getD [x0, x1] j .undef)) ∧
 (∀ (x0 : V) (x1 : V) (x2 : V) (x3 : V) (k : (Nat -> V) -> Option Res), V.asAgg (.agg [x0, x1, x2, x3]) 4 k = k (fun j => List.getD [x0, x1, x2, x3] j .undef)) ∧
 (∀ (x0 : V) (x1 : V) (k : (Nat -> V) -> Option Res), V.asTup (.tup [x0, x1]) 2 k = k (fun j => List.getD [x0, x1] j .undef)) ∧
 (∀ (x0 : V) (x1 : V) (x2 : V) (k : (Nat -> V) -> Option Res), V.asTup (.tup [x0, x1, x2]) 3 k = k (fun j => List.getD [x0, x1, x2] j .undef)) ∧
 (∀ (x0 : V) (x1 : V) (x2 : V) (x3 : V) (k : (Nat -> V) -> Option Res), V.asTup (.tup [x0, x1, x2, x3]) 4 k = k (fun j => List.getD [x0, x1, x2, x3] j .undef)) ∧
 (∀ x y : Option Res, cond true x y = x) ∧
 (∀ x y : Option Res, cond false x y = y) ∧
 ((!true) = false) ∧
 ((!false) = true) ∧
 (∀ n : Int, (n != n) = false) ∧
 ((false = true) = False) ∧
 (∀ a : V, beqV a a = true) ∧
 (∀ b : Bool, (b && true) = b) :=
 ⟨Px.mk_B, fun _ _ => rfl, bl_mk, fun _ _ _ => rfl, fun _ _ _ _ => List.getD_cons_succ, fun t x0 k => asCells_1 t x0 k, fun t x0 x1 k => asCells_2 t x0 x1 k, fun t x0 x1 x2 k => asCells_3 t x0 x1 x2 k, fun t x0 x1 x2 x3 k => asCells_4 t x0 x1 x2 x3 k, fun t x0 x1 x2 x3 x4 k => asCells_5 t x0 x1 x2 x3 x4 k, fun t x0 x1 x2 x3 x4 x5 k => asCells_6 t x0 x1 x2 x3 x4 x5 k, fun t x0 x1 x2 x3 x4 x5 x6 k => asCells_7 t x0 x1 x2 x3 x4 x5 x6 k, asSl_sl, asSlR_sl, asInt_int, asStr_str, asBool_bool, onRet_ret, onOut_ret, onOut_pan, asIface_iface, fun _ => rfl, fun x0 x1 k => asAgg_2 x0 x1 k, fun x0 x1 x2 x3 k => asAgg_4 x0 x1 x2 x3 k, fun x0 x1 k => asTup_2 x0 x1 k, fun x0 x1 x2 k => asTup_3 x0 x1 x2 k, fun x0 x1 x2 x3 k => asTup_4 x0 x1 x2 x3 k, fun _ _ => rfl, fun _ _ => rfl, rfl, rfl, fun n => bne_self_eq_false n, by simp, beqV_self, Bool.and_true⟩
end Go.Proofs.Ab
namespace Go.Proofs.YtmhnmelaodhemaaDoor
open Go Go.Proofs.Ab
namespace decl_reader_line
theorem eq (m0_0 : List (List V)) (m0_1 : Int) (m0_2 m0_3 m0_4 m0_5 m0_6 : List (List V)) : den Sp id [V.ref 0 0] [Blk.cells T_decl_reader [V.sl .no T_api_Token m0_0, V.int .i64 m0_1, V.sl (Tok.row 0) T_api_Pair m0_2, V.sl (Tok.row 1) T_api_Pair m0_3, V.sl (Tok.row 2) T_decl_Keep m0_4, V.sl (Tok.row 3) T_decl_Break m0_5, V.sl (Tok.row 4) T_decl_Watch m0_6] false] none =
  (den Sp decl_reader_word.id [V.ref 0 0, V.str (ByteArray.mk #[112, 97, 105, 114])] [Blk.cells T_decl_reader [V.sl .no T_api_Token m0_0, V.int .i64 m0_1] false] none).bind (fun r9 => Blk.asCells (List.getD (Res.bl r9) 0 (Blk.cells T_n0 [] true)) T_decl_reader 2 (fun rd10 => V.asSl (rd10 0) T_api_Token (fun es11 => V.asInt (rd10 1) .i64 (fun n12 => Res.onRet r9 (fun v13 => V.asBool v13 (fun b14 => bif b14 then (den Sp decl_reader_full.id [V.ref 0 0, V.int .i64 m0_1, V.int .i64 (m0_2.length : Int), V.int .i64 (40 : Int)] [Blk.cells T_decl_reader [V.sl .no T_api_Token es11, V.int .i64 n12] false] none).bind (fun r16 => Blk.asCells (List.getD (Res.bl r16) 0 (Blk.cells T_n0 [] true)) T_decl_reader 2 (fun rd17 => V.asSl (rd17 0) T_api_Token (fun es18 => V.asInt (rd17 1) .i64 (fun n19 => Res.onOut r16 (fun v20 => V.asTup v20 0 (fun rd21 => (den Sp decl_reader_name.id [V.ref 0 0] [Blk.cells T_decl_reader [V.sl .no T_api_Token es18, V.int .i64 (IntKind.wrap .i64 (n19 + (1 : Int)))] false] none).bind (fun r24 => Blk.asCells (List.getD (Res.bl r24) 0 (Blk.cells T_n0 [] true)) T_decl_reader 2 (fun rd25 => V.asSl (rd25 0) T_api_Token (fun es26 => V.asInt (rd25 1) .i64 (fun n27 => Res.onOut r24 (fun v28 => V.asStr v28 (fun s29 => (den Sp decl_reader_name.id [V.ref 0 0] [Blk.cells T_decl_reader [V.sl .no T_api_Token es26, V.int .i64 n27] false] none).bind (fun r31 => Blk.asCells (List.getD (Res.bl r31) 0 (Blk.cells T_n0 [] true)) T_decl_reader 2 (fun rd32 => V.asSl (rd32 0) T_api_Token (fun es33 => V.asInt (rd32 1) .i64 (fun n34 => Res.onOut r31 (fun v35 => V.asStr v35 (fun s36 => bif ((beqV (V.sl (Tok.row 0) T_api_Pair m0_2) (V.sl (Tok.row 0) T_api_Pair m0_2)) && true) then (bif (decide ((m0_2.length : Int) >= (40 : Int))) then (if (((0 : Int) <= m0_1) ∧ (m0_1 < (es33.length : Int))) then (V.asInt (List.getD (List.getD es33 (Int.toNat m0_1) []) 3 V.undef) .i64 (fun n37 => some ⟨Out.pan (V.iface T_decl_given (V.agg [V.int .i64 n37, V.int .i64 (2 : Int)])), [Blk.cells T_decl_reader [V.sl .no T_api_Token es33, V.int .i64 n34, V.sl (Tok.row 0) T_api_Pair m0_2, V.sl (Tok.row 1) T_api_Pair m0_3, V.sl (Tok.row 2) T_decl_Keep m0_4, V.sl (Tok.row 3) T_decl_Break m0_5, V.sl (Tok.row 4) T_decl_Watch m0_6] false], none⟩)) else none) else (if (((List.length m0_2) + (List.length [[V.str s29, V.str s36, V.str (ByteArray.mk #[]), V.str (ByteArray.mk #[])]])) <= most) then (den Sp decl_reader_sign.id [V.ref 0 0, V.str (ByteArray.mk #[59])] [Blk.cells T_decl_reader [V.sl .no T_api_Token es33, V.int .i64 n34] false] none).bind (fun r38 => Blk.asCells (List.getD (Res.bl r38) 0 (Blk.cells T_n0 [] true)) T_decl_reader 2 (fun rd39 => V.asSl (rd39 0) T_api_Token (fun es40 => V.asInt (rd39 1) .i64 (fun n41 => Res.onOut r38 (fun v42 => V.asTup v42 0 (fun rd43 => some ⟨Out.ret (V.tup []), [Blk.cells T_decl_reader [V.sl .no T_api_Token es40, V.int .i64 n41, V.sl (Tok.row 0) T_api_Pair (m0_2 ++ [[V.str s29, V.str s36, V.str (ByteArray.mk #[]), V.str (ByteArray.mk #[])]]), V.sl (Tok.row 1) T_api_Pair m0_3, V.sl (Tok.row 2) T_decl_Keep m0_4, V.sl (Tok.row 3) T_decl_Break m0_5, V.sl (Tok.row 4) T_decl_Watch m0_6] false], none⟩)) (fun v42 => V.asIface v42 T_decl_given (fun w43 => V.asAgg w43 2 (fun rd44 => V.asInt (rd44 0) .i64 (fun n45 => V.asInt (rd44 1) .i64 (fun n46 => some ⟨Out.pan (V.iface T_decl_given (V.agg [V.int .i64 n45, V.int .i64 n46])), [Blk.cells T_decl_reader [V.sl .no T_api_Token es40, V.int .i64 n41, V.sl (Tok.row 0) T_api_Pair (m0_2 ++ [[V.str s29, V.str s36, V.str (ByteArray.mk #[]), V.str (ByteArray.mk #[])]]), V.sl (Tok.row 1) T_api_Pair m0_3, V.sl (Tok.row 2) T_decl_Keep m0_4, V.sl (Tok.row 3) T_decl_Break m0_5, V.sl (Tok.row 4) T_decl_Watch m0_6] false], none⟩))))))))) else none)) else none)) (fun v35 => V.asIface v35 T_decl_given (fun w36 => V.asAgg w36 2 (fun rd37 => V.asInt (rd37 0) .i64 (fun n38 => V.asInt (rd37 1) .i64 (fun n39 => some ⟨Out.pan (V.iface T_decl_given (V.agg [V.int .i64 n38, V.int .i64 n39])), [Blk.cells T_decl_reader [V.sl .no T_api_Token es33, V.int .i64 n34, V.sl (Tok.row 0) T_api_Pair m0_2, V.sl (Tok.row 1) T_api_Pair m0_3, V.sl (Tok.row 2) T_decl_Keep m0_4, V.sl (Tok.row 3) T_decl_Break m0_5, V.sl (Tok.row 4) T_decl_Watch m0_6] false], none⟩))))))))))) (fun v28 => V.asIface v28 T_decl_given (fun w29 => V.asAgg w29 2 (fun rd30 => V.asInt (rd30 0) .i64 (fun n31 => V.asInt (rd30 1) .i64 (fun n32 => some ⟨Out.pan (V.iface T_decl_given (V.agg [V.int .i64 n31, V.int .i64 n32])), [Blk.cells T_decl_reader [V.sl .no T_api_Token es26, V.int .i64 n27, V.sl (Tok.row 0) T_api_Pair m0_2, V.sl (Tok.row 1) T_api_Pair m0_3, V.sl (Tok.row 2) T_decl_Keep m0_4, V.sl (Tok.row 3) T_decl_Break m0_5, V.sl (Tok.row 4) T_decl_Watch m0_6] false], none⟩))))))))))) (fun v20 => V.asIface v20 T_decl_given (fun w21 => V.asAgg w21 2 (fun rd22 => V.asInt (rd22 0) .i64 (fun n23 => V.asInt (rd22 1) .i64 (fun n24 => some ⟨Out.pan (V.iface T_decl_given (V.agg [V.int .i64 n23, V.int .i64 n24])), [Blk.cells T_decl_reader [V.sl .no T_api_Token es18, V.int .i64 n19, V.sl (Tok.row 0) T_api_Pair m0_2, V.sl (Tok.row 1) T_api_Pair m0_3, V.sl (Tok.row 2) T_decl_Keep m0_4, V.sl (Tok.row 3) T_decl_Break m0_5, V.sl (Tok.row 4) T_decl_Watch m0_6] false], none⟩))))))))) else (den Sp decl_reader_word.id [V.ref 0 0, V.str (ByteArray.mk #[115, 97, 109, 101])] [Blk.cells T_decl_reader [V.sl .no T_api_Token es11, V.int .i64 n12] false] none).bind (fun r16 => Blk.asCells (List.getD (Res.bl r16) 0 (Blk.cells T_n0 [] true)) T_decl_reader 2 (fun rd17 => V.asSl (rd17 0) T_api_Token (fun es18 => V.asInt (rd17 1) .i64 (fun n19 => Res.onRet r16 (fun v20 => V.asBool v20 (fun b21 => bif b21 then (den Sp decl_reader_full.id [V.ref 0 0, V.int .i64 m0_1, V.int .i64 (m0_3.length : Int), V.int .i64 (40 : Int)] [Blk.cells T_decl_reader [V.sl .no T_api_Token es18, V.int .i64 n19] false] none).bind (fun r23 => Blk.asCells (List.getD (Res.bl r23) 0 (Blk.cells T_n0 [] true)) T_decl_reader 2 (fun rd24 => V.asSl (rd24 0) T_api_Token (fun es25 => V.asInt (rd24 1) .i64 (fun n26 => Res.onOut r23 (fun v27 => V.asTup v27 0 (fun rd28 => (den Sp decl_reader_same.id [V.ref 0 0] [Blk.cells T_decl_reader [V.sl .no T_api_Token es25, V.int .i64 (IntKind.wrap .i64 (n26 + (1 : Int)))] false] none).bind (fun r31 => Blk.asCells (List.getD (Res.bl r31) 0 (Blk.cells T_n0 [] true)) T_decl_reader 2 (fun rd32 => V.asSl (rd32 0) T_api_Token (fun es33 => V.asInt (rd32 1) .i64 (fun n34 => Res.onOut r31 (fun v35 => V.asAgg v35 4 (fun rd36 => V.asStr (rd36 0) (fun s37 => V.asStr (rd36 1) (fun s38 => V.asStr (rd36 2) (fun s39 => V.asStr (rd36 3) (fun s40 => bif (decide ((m0_3.length : Int) >= (40 : Int))) then (if (((0 : Int) <= m0_1) ∧ (m0_1 < (es33.length : Int))) then (V.asInt (List.getD (List.getD es33 (Int.toNat m0_1) []) 3 V.undef) .i64 (fun n42 => some ⟨Out.pan (V.iface T_decl_given (V.agg [V.int .i64 n42, V.int .i64 (2 : Int)])), [Blk.cells T_decl_reader [V.sl .no T_api_Token es33, V.int .i64 n34, V.sl (Tok.row 0) T_api_Pair m0_2, V.sl (Tok.row 1) T_api_Pair m0_3, V.sl (Tok.row 2) T_decl_Keep m0_4, V.sl (Tok.row 3) T_decl_Break m0_5, V.sl (Tok.row 4) T_decl_Watch m0_6] false], none⟩)) else none) else (if (((List.length m0_3) + (List.length [[V.str s37, V.str s38, V.str s39, V.str s40]])) <= most) then (den Sp decl_reader_sign.id [V.ref 0 0, V.str (ByteArray.mk #[59])] [Blk.cells T_decl_reader [V.sl .no T_api_Token es33, V.int .i64 n34] false] none).bind (fun r43 => Blk.asCells (List.getD (Res.bl r43) 0 (Blk.cells T_n0 [] true)) T_decl_reader 2 (fun rd44 => V.asSl (rd44 0) T_api_Token (fun es45 => V.asInt (rd44 1) .i64 (fun n46 => Res.onOut r43 (fun v47 => V.asTup v47 0 (fun rd48 => some ⟨Out.ret (V.tup []), [Blk.cells T_decl_reader [V.sl .no T_api_Token es45, V.int .i64 n46, V.sl (Tok.row 0) T_api_Pair m0_2, V.sl (Tok.row 1) T_api_Pair (m0_3 ++ [[V.str s37, V.str s38, V.str s39, V.str s40]]), V.sl (Tok.row 2) T_decl_Keep m0_4, V.sl (Tok.row 3) T_decl_Break m0_5, V.sl (Tok.row 4) T_decl_Watch m0_6] false], none⟩)) (fun v47 => V.asIface v47 T_decl_given (fun w48 => V.asAgg w48 2 (fun rd49 => V.asInt (rd49 0) .i64 (fun n50 => V.asInt (rd49 1) .i64 (fun n51 => some ⟨Out.pan (V.iface T_decl_given (V.agg [V.int .i64 n50, V.int .i64 n51])), [Blk.cells T_decl_reader [V.sl .no T_api_Token es45, V.int .i64 n46, V.sl (Tok.row 0) T_api_Pair m0_2, V.sl (Tok.row 1) T_api_Pair (m0_3 ++ [[V.str s37, V.str s38, V.str s39, V.str s40]]), V.sl (Tok.row 2) T_decl_Keep m0_4, V.sl (Tok.row 3) T_decl_Break m0_5, V.sl (Tok.row 4) T_decl_Watch m0_6] false], none⟩))))))))) else none))))))) (fun v35 => V.asIface v35 T_decl_given (fun w36 => V.asAgg w36 2 (fun rd37 => V.asInt (rd37 0) .i64 (fun n38 => V.asInt (rd37 1) .i64 (fun n39 => some ⟨Out.pan (V.iface T_decl_given (V.agg [V.int .i64 n38, V.int .i64 n39])), [Blk.cells T_decl_reader [V.sl .no T_api_Token es33, V.int .i64 n34, V.sl (Tok.row 0) T_api_Pair m0_2, V.sl (Tok.row 1) T_api_Pair m0_3, V.sl (Tok.row 2) T_decl_Keep m0_4, V.sl (Tok.row 3) T_decl_Break m0_5, V.sl (Tok.row 4) T_decl_Watch m0_6] false], none⟩))))))))))) (fun v27 => V.asIface v27 T_decl_given (fun w28 => V.asAgg w28 2 (fun rd29 => V.asInt (rd29 0) .i64 (fun n30 => V.asInt (rd29 1) .i64 (fun n31 => some ⟨Out.pan (V.iface T_decl_given (V.agg [V.int .i64 n30, V.int .i64 n31])), [Blk.cells T_decl_reader [V.sl .no T_api_Token es25, V.int .i64 n26, V.sl (Tok.row 0) T_api_Pair m0_2, V.sl (Tok.row 1) T_api_Pair m0_3, V.sl (Tok.row 2) T_decl_Keep m0_4, V.sl (Tok.row 3) T_decl_Break m0_5, V.sl (Tok.row 4) T_decl_Watch m0_6] false], none⟩))))))))) else (den Sp decl_reader_word.id [V.ref 0 0, V.str (ByteArray.mk #[107, 101, 101, 112])] [Blk.cells T_decl_reader [V.sl .no T_api_Token es18, V.int .i64 n19] false] none).bind (fun r23 => Blk.asCells (List.getD (Res.bl r23) 0 (Blk.cells T_n0 [] true)) T_decl_reader 2 (fun rd24 => V.asSl (rd24 0) T_api_Token (fun es25 => V.asInt (rd24 1) .i64 (fun n26 => Res.onRet r23 (fun v27 => V.asBool v27 (fun b28 => bif b28 then (den Sp decl_reader_full.id [V.ref 0 0, V.int .i64 m0_1, V.int .i64 (m0_4.length : Int), V.int .i64 (40 : Int)] [Blk.cells T_decl_reader [V.sl .no T_api_Token es25, V.int .i64 n26] false] none).bind (fun r30 => Blk.asCells (List.getD (Res.bl r30) 0 (Blk.cells T_n0 [] true)) T_decl_reader 2 (fun rd31 => V.asSl (rd31 0) T_api_Token (fun es32 => V.asInt (rd31 1) .i64 (fun n33 => Res.onOut r30 (fun v34 => V.asTup v34 0 (fun rd35 => (den Sp decl_reader_side.id [V.ref 0 0] [Blk.cells T_decl_reader [V.sl .no T_api_Token es32, V.int .i64 (IntKind.wrap .i64 (n33 + (1 : Int)))] false] none).bind (fun r38 => Blk.asCells (List.getD (Res.bl r38) 0 (Blk.cells T_n0 [] true)) T_decl_reader 2 (fun rd39 => V.asSl (rd39 0) T_api_Token (fun es40 => V.asInt (rd39 1) .i64 (fun n41 => Res.onOut r38 (fun v42 => V.asInt v42 .i64 (fun n43 => (den Sp decl_reader_name.id [V.ref 0 0] [Blk.cells T_decl_reader [V.sl .no T_api_Token es40, V.int .i64 n41] false] none).bind (fun r45 => Blk.asCells (List.getD (Res.bl r45) 0 (Blk.cells T_n0 [] true)) T_decl_reader 2 (fun rd46 => V.asSl (rd46 0) T_api_Token (fun es47 => V.asInt (rd46 1) .i64 (fun n48 => Res.onOut r45 (fun v49 => V.asStr v49 (fun s50 => (den Sp decl_reader_name.id [V.ref 0 0] [Blk.cells T_decl_reader [V.sl .no T_api_Token es47, V.int .i64 n48] false] none).bind (fun r52 => Blk.asCells (List.getD (Res.bl r52) 0 (Blk.cells T_n0 [] true)) T_decl_reader 2 (fun rd53 => V.asSl (rd53 0) T_api_Token (fun es54 => V.asInt (rd53 1) .i64 (fun n55 => Res.onOut r52 (fun v56 => V.asStr v56 (fun s57 => bif ((beqV (V.sl (Tok.row 2) T_decl_Keep m0_4) (V.sl (Tok.row 2) T_decl_Keep m0_4)) && true) then (bif (decide ((m0_4.length : Int) >= (40 : Int))) then (if (((0 : Int) <= m0_1) ∧ (m0_1 < (es54.length : Int))) then (V.asInt (List.getD (List.getD es54 (Int.toNat m0_1) []) 3 V.undef) .i64 (fun n58 => some ⟨Out.pan (V.iface T_decl_given (V.agg [V.int .i64 n58, V.int .i64 (2 : Int)])), [Blk.cells T_decl_reader [V.sl .no T_api_Token es54, V.int .i64 n55, V.sl (Tok.row 0) T_api_Pair m0_2, V.sl (Tok.row 1) T_api_Pair m0_3, V.sl (Tok.row 2) T_decl_Keep m0_4, V.sl (Tok.row 3) T_decl_Break m0_5, V.sl (Tok.row 4) T_decl_Watch m0_6] false], none⟩)) else none) else (if (((List.length m0_4) + (List.length [[V.int .i64 n43, V.str s50, V.str s57]])) <= most) then (den Sp decl_reader_sign.id [V.ref 0 0, V.str (ByteArray.mk #[59])] [Blk.cells T_decl_reader [V.sl .no T_api_Token es54, V.int .i64 n55] false] none).bind (fun r59 => Blk.asCells (List.getD (Res.bl r59) 0 (Blk.cells T_n0 [] true)) T_decl_reader 2 (fun rd60 => V.asSl (rd60 0) T_api_Token (fun es61 => V.asInt (rd60 1) .i64 (fun n62 => Res.onOut r59 (fun v63 => V.asTup v63 0 (fun rd64 => some ⟨Out.ret (V.tup []), [Blk.cells T_decl_reader [V.sl .no T_api_Token es61, V.int .i64 n62, V.sl (Tok.row 0) T_api_Pair m0_2, V.sl (Tok.row 1) T_api_Pair m0_3, V.sl (Tok.row 2) T_decl_Keep (m0_4 ++ [[V.int .i64 n43, V.str s50, V.str s57]]), V.sl (Tok.row 3) T_decl_Break m0_5, V.sl (Tok.row 4) T_decl_Watch m0_6] false], none⟩)) (fun v63 => V.asIface v63 T_decl_given (fun w64 => V.asAgg w64 2 (fun rd65 => V.asInt (rd65 0) .i64 (fun n66 => V.asInt (rd65 1) .i64 (fun n67 => some ⟨Out.pan (V.iface T_decl_given (V.agg [V.int .i64 n66, V.int .i64 n67])), [Blk.cells T_decl_reader [V.sl .no T_api_Token es61, V.int .i64 n62, V.sl (Tok.row 0) T_api_Pair m0_2, V.sl (Tok.row 1) T_api_Pair m0_3, V.sl (Tok.row 2) T_decl_Keep (m0_4 ++ [[V.int .i64 n43, V.str s50, V.str s57]]), V.sl (Tok.row 3) T_decl_Break m0_5, V.sl (Tok.row 4) T_decl_Watch m0_6] false], none⟩))))))))) else none)) else none)) (fun v56 => V.asIface v56 T_decl_given (fun w57 => V.asAgg w57 2 (fun rd58 => V.asInt (rd58 0) .i64 (fun n59 => V.asInt (rd58 1) .i64 (fun n60 => some ⟨Out.pan (V.iface T_decl_given (V.agg [V.int .i64 n59, V.int .i64 n60])), [Blk.cells T_decl_reader [V.sl .no T_api_Token es54, V.int .i64 n55, V.sl (Tok.row 0) T_api_Pair m0_2, V.sl (Tok.row 1) T_api_Pair m0_3, V.sl (Tok.row 2) T_decl_Keep m0_4, V.sl (Tok.row 3) T_decl_Break m0_5, V.sl (Tok.row 4) T_decl_Watch m0_6] false], none⟩))))))))))) (fun v49 => V.asIface v49 T_decl_given (fun w50 => V.asAgg w50 2 (fun rd51 => V.asInt (rd51 0) .i64 (fun n52 => V.asInt (rd51 1) .i64 (fun n53 => some ⟨Out.pan (V.iface T_decl_given (V.agg [V.int .i64 n52, V.int .i64 n53])), [Blk.cells T_decl_reader [V.sl .no T_api_Token es47, V.int .i64 n48, V.sl (Tok.row 0) T_api_Pair m0_2, V.sl (Tok.row 1) T_api_Pair m0_3, V.sl (Tok.row 2) T_decl_Keep m0_4, V.sl (Tok.row 3) T_decl_Break m0_5, V.sl (Tok.row 4) T_decl_Watch m0_6] false], none⟩))))))))))) (fun v42 => V.asIface v42 T_decl_given (fun w43 => V.asAgg w43 2 (fun rd44 => V.asInt (rd44 0) .i64 (fun n45 => V.asInt (rd44 1) .i64 (fun n46 => some ⟨Out.pan (V.iface T_decl_given (V.agg [V.int .i64 n45, V.int .i64 n46])), [Blk.cells T_decl_reader [V.sl .no T_api_Token es40, V.int .i64 n41, V.sl (Tok.row 0) T_api_Pair m0_2, V.sl (Tok.row 1) T_api_Pair m0_3, V.sl (Tok.row 2) T_decl_Keep m0_4, V.sl (Tok.row 3) T_decl_Break m0_5, V.sl (Tok.row 4) T_decl_Watch m0_6] false], none⟩))))))))))) (fun v34 => V.asIface v34 T_decl_given (fun w35 => V.asAgg w35 2 (fun rd36 => V.asInt (rd36 0) .i64 (fun n37 => V.asInt (rd36 1) .i64 (fun n38 => some ⟨Out.pan (V.iface T_decl_given (V.agg [V.int .i64 n37, V.int .i64 n38])), [Blk.cells T_decl_reader [V.sl .no T_api_Token es32, V.int .i64 n33, V.sl (Tok.row 0) T_api_Pair m0_2, V.sl (Tok.row 1) T_api_Pair m0_3, V.sl (Tok.row 2) T_decl_Keep m0_4, V.sl (Tok.row 3) T_decl_Break m0_5, V.sl (Tok.row 4) T_decl_Watch m0_6] false], none⟩))))))))) else (den Sp decl_reader_word.id [V.ref 0 0, V.str (ByteArray.mk #[98, 114, 101, 97, 107])] [Blk.cells T_decl_reader [V.sl .no T_api_Token es25, V.int .i64 n26] false] none).bind (fun r30 => Blk.asCells (List.getD (Res.bl r30) 0 (Blk.cells T_n0 [] true)) T_decl_reader 2 (fun rd31 => V.asSl (rd31 0) T_api_Token (fun es32 => V.asInt (rd31 1) .i64 (fun n33 => Res.onRet r30 (fun v34 => V.asBool v34 (fun b35 => bif b35 then (den Sp decl_reader_full.id [V.ref 0 0, V.int .i64 m0_1, V.int .i64 (m0_5.length : Int), V.int .i64 (40 : Int)] [Blk.cells T_decl_reader [V.sl .no T_api_Token es32, V.int .i64 n33] false] none).bind (fun r37 => Blk.asCells (List.getD (Res.bl r37) 0 (Blk.cells T_n0 [] true)) T_decl_reader 2 (fun rd38 => V.asSl (rd38 0) T_api_Token (fun es39 => V.asInt (rd38 1) .i64 (fun n40 => Res.onOut r37 (fun v41 => V.asTup v41 0 (fun rd42 => (den Sp decl_reader_stop.id [V.ref 0 0] [Blk.cells T_decl_reader [V.sl .no T_api_Token es39, V.int .i64 (IntKind.wrap .i64 (n40 + (1 : Int)))] false] none).bind (fun r45 => Blk.asCells (List.getD (Res.bl r45) 0 (Blk.cells T_n0 [] true)) T_decl_reader 2 (fun rd46 => V.asSl (rd46 0) T_api_Token (fun es47 => V.asInt (rd46 1) .i64 (fun n48 => Res.onOut r45 (fun v49 => V.asAgg v49 4 (fun rd50 => V.asInt (rd50 0) .i64 (fun n51 => V.asStr (rd50 1) (fun s52 => V.asInt (rd50 2) .i64 (fun n53 => V.asSl (rd50 3) T_api_Expr (fun es54 => bif (decide ((m0_5.length : Int) >= (40 : Int))) then (if (((0 : Int) <= m0_1) ∧ (m0_1 < (es47.length : Int))) then (V.asInt (List.getD (List.getD es47 (Int.toNat m0_1) []) 3 V.undef) .i64 (fun n56 => some ⟨Out.pan (V.iface T_decl_given (V.agg [V.int .i64 n56, V.int .i64 (2 : Int)])), [Blk.cells T_decl_reader [V.sl .no T_api_Token es47, V.int .i64 n48, V.sl (Tok.row 0) T_api_Pair m0_2, V.sl (Tok.row 1) T_api_Pair m0_3, V.sl (Tok.row 2) T_decl_Keep m0_4, V.sl (Tok.row 3) T_decl_Break m0_5, V.sl (Tok.row 4) T_decl_Watch m0_6] false], none⟩)) else none) else (if (((List.length m0_5) + (List.length [[V.int .i64 n51, V.str s52, V.int .i64 n53, V.sl .no T_api_Expr es54]])) <= most) then (den Sp decl_reader_sign.id [V.ref 0 0, V.str (ByteArray.mk #[59])] [Blk.cells T_decl_reader [V.sl .no T_api_Token es47, V.int .i64 n48] false] none).bind (fun r57 => Blk.asCells (List.getD (Res.bl r57) 0 (Blk.cells T_n0 [] true)) T_decl_reader 2 (fun rd58 => V.asSl (rd58 0) T_api_Token (fun es59 => V.asInt (rd58 1) .i64 (fun n60 => Res.onOut r57 (fun v61 => V.asTup v61 0 (fun rd62 => some ⟨Out.ret (V.tup []), [Blk.cells T_decl_reader [V.sl .no T_api_Token es59, V.int .i64 n60, V.sl (Tok.row 0) T_api_Pair m0_2, V.sl (Tok.row 1) T_api_Pair m0_3, V.sl (Tok.row 2) T_decl_Keep m0_4, V.sl (Tok.row 3) T_decl_Break (m0_5 ++ [[V.int .i64 n51, V.str s52, V.int .i64 n53, V.sl .no T_api_Expr es54]]), V.sl (Tok.row 4) T_decl_Watch m0_6] false], none⟩)) (fun v61 => V.asIface v61 T_decl_given (fun w62 => V.asAgg w62 2 (fun rd63 => V.asInt (rd63 0) .i64 (fun n64 => V.asInt (rd63 1) .i64 (fun n65 => some ⟨Out.pan (V.iface T_decl_given (V.agg [V.int .i64 n64, V.int .i64 n65])), [Blk.cells T_decl_reader [V.sl .no T_api_Token es59, V.int .i64 n60, V.sl (Tok.row 0) T_api_Pair m0_2, V.sl (Tok.row 1) T_api_Pair m0_3, V.sl (Tok.row 2) T_decl_Keep m0_4, V.sl (Tok.row 3) T_decl_Break (m0_5 ++ [[V.int .i64 n51, V.str s52, V.int .i64 n53, V.sl .no T_api_Expr es54]]), V.sl (Tok.row 4) T_decl_Watch m0_6] false], none⟩))))))))) else none))))))) (fun v49 => V.asIface v49 T_decl_given (fun w50 => V.asAgg w50 2 (fun rd51 => V.asInt (rd51 0) .i64 (fun n52 => V.asInt (rd51 1) .i64 (fun n53 => some ⟨Out.pan (V.iface T_decl_given (V.agg [V.int .i64 n52, V.int .i64 n53])), [Blk.cells T_decl_reader [V.sl .no T_api_Token es47, V.int .i64 n48, V.sl (Tok.row 0) T_api_Pair m0_2, V.sl (Tok.row 1) T_api_Pair m0_3, V.sl (Tok.row 2) T_decl_Keep m0_4, V.sl (Tok.row 3) T_decl_Break m0_5, V.sl (Tok.row 4) T_decl_Watch m0_6] false], none⟩))))))))))) (fun v41 => V.asIface v41 T_decl_given (fun w42 => V.asAgg w42 2 (fun rd43 => V.asInt (rd43 0) .i64 (fun n44 => V.asInt (rd43 1) .i64 (fun n45 => some ⟨Out.pan (V.iface T_decl_given (V.agg [V.int .i64 n44, V.int .i64 n45])), [Blk.cells T_decl_reader [V.sl .no T_api_Token es39, V.int .i64 n40, V.sl (Tok.row 0) T_api_Pair m0_2, V.sl (Tok.row 1) T_api_Pair m0_3, V.sl (Tok.row 2) T_decl_Keep m0_4, V.sl (Tok.row 3) T_decl_Break m0_5, V.sl (Tok.row 4) T_decl_Watch m0_6] false], none⟩))))))))) else (den Sp decl_reader_word.id [V.ref 0 0, V.str (ByteArray.mk #[119, 97, 116, 99, 104])] [Blk.cells T_decl_reader [V.sl .no T_api_Token es32, V.int .i64 n33] false] none).bind (fun r37 => Blk.asCells (List.getD (Res.bl r37) 0 (Blk.cells T_n0 [] true)) T_decl_reader 2 (fun rd38 => V.asSl (rd38 0) T_api_Token (fun es39 => V.asInt (rd38 1) .i64 (fun n40 => Res.onRet r37 (fun v41 => V.asBool v41 (fun b42 => bif b42 then (den Sp decl_reader_full.id [V.ref 0 0, V.int .i64 m0_1, V.int .i64 (m0_6.length : Int), V.int .i64 (40 : Int)] [Blk.cells T_decl_reader [V.sl .no T_api_Token es39, V.int .i64 n40] false] none).bind (fun r44 => Blk.asCells (List.getD (Res.bl r44) 0 (Blk.cells T_n0 [] true)) T_decl_reader 2 (fun rd45 => V.asSl (rd45 0) T_api_Token (fun es46 => V.asInt (rd45 1) .i64 (fun n47 => Res.onOut r44 (fun v48 => V.asTup v48 0 (fun rd49 => (den Sp decl_reader_side.id [V.ref 0 0] [Blk.cells T_decl_reader [V.sl .no T_api_Token es46, V.int .i64 (IntKind.wrap .i64 (n47 + (1 : Int)))] false] none).bind (fun r52 => Blk.asCells (List.getD (Res.bl r52) 0 (Blk.cells T_n0 [] true)) T_decl_reader 2 (fun rd53 => V.asSl (rd53 0) T_api_Token (fun es54 => V.asInt (rd53 1) .i64 (fun n55 => Res.onOut r52 (fun v56 => V.asInt v56 .i64 (fun n57 => (den Sp decl_reader_name.id [V.ref 0 0] [Blk.cells T_decl_reader [V.sl .no T_api_Token es54, V.int .i64 n55] false] none).bind (fun r59 => Blk.asCells (List.getD (Res.bl r59) 0 (Blk.cells T_n0 [] true)) T_decl_reader 2 (fun rd60 => V.asSl (rd60 0) T_api_Token (fun es61 => V.asInt (rd60 1) .i64 (fun n62 => Res.onOut r59 (fun v63 => V.asStr v63 (fun s64 => (den Sp decl_reader_name.id [V.ref 0 0] [Blk.cells T_decl_reader [V.sl .no T_api_Token es61, V.int .i64 n62] false] none).bind (fun r66 => Blk.asCells (List.getD (Res.bl r66) 0 (Blk.cells T_n0 [] true)) T_decl_reader 2 (fun rd67 => V.asSl (rd67 0) T_api_Token (fun es68 => V.asInt (rd67 1) .i64 (fun n69 => Res.onOut r66 (fun v70 => V.asStr v70 (fun s71 => bif ((beqV (V.sl (Tok.row 4) T_decl_Watch m0_6) (V.sl (Tok.row 4) T_decl_Watch m0_6)) && true) then (bif (decide ((m0_6.length : Int) >= (40 : Int))) then (if (((0 : Int) <= m0_1) ∧ (m0_1 < (es68.length : Int))) then (V.asInt (List.getD (List.getD es68 (Int.toNat m0_1) []) 3 V.undef) .i64 (fun n72 => some ⟨Out.pan (V.iface T_decl_given (V.agg [V.int .i64 n72, V.int .i64 (2 : Int)])), [Blk.cells T_decl_reader [V.sl .no T_api_Token es68, V.int .i64 n69, V.sl (Tok.row 0) T_api_Pair m0_2, V.sl (Tok.row 1) T_api_Pair m0_3, V.sl (Tok.row 2) T_decl_Keep m0_4, V.sl (Tok.row 3) T_decl_Break m0_5, V.sl (Tok.row 4) T_decl_Watch m0_6] false], none⟩)) else none) else (if (((List.length m0_6) + (List.length [[V.int .i64 n57, V.str s64, V.str s71]])) <= most) then (den Sp decl_reader_sign.id [V.ref 0 0, V.str (ByteArray.mk #[59])] [Blk.cells T_decl_reader [V.sl .no T_api_Token es68, V.int .i64 n69] false] none).bind (fun r73 => Blk.asCells (List.getD (Res.bl r73) 0 (Blk.cells T_n0 [] true)) T_decl_reader 2 (fun rd74 => V.asSl (rd74 0) T_api_Token (fun es75 => V.asInt (rd74 1) .i64 (fun n76 => Res.onOut r73 (fun v77 => V.asTup v77 0 (fun rd78 => some ⟨Out.ret (V.tup []), [Blk.cells T_decl_reader [V.sl .no T_api_Token es75, V.int .i64 n76, V.sl (Tok.row 0) T_api_Pair m0_2, V.sl (Tok.row 1) T_api_Pair m0_3, V.sl (Tok.row 2) T_decl_Keep m0_4, V.sl (Tok.row 3) T_decl_Break m0_5, V.sl (Tok.row 4) T_decl_Watch (m0_6 ++ [[V.int .i64 n57, V.str s64, V.str s71]])] false], none⟩)) (fun v77 => V.asIface v77 T_decl_given (fun w78 => V.asAgg w78 2 (fun rd79 => V.asInt (rd79 0) .i64 (fun n80 => V.asInt (rd79 1) .i64 (fun n81 => some ⟨Out.pan (V.iface T_decl_given (V.agg [V.int .i64 n80, V.int .i64 n81])), [Blk.cells T_decl_reader [V.sl .no T_api_Token es75, V.int .i64 n76, V.sl (Tok.row 0) T_api_Pair m0_2, V.sl (Tok.row 1) T_api_Pair m0_3, V.sl (Tok.row 2) T_decl_Keep m0_4, V.sl (Tok.row 3) T_decl_Break m0_5, V.sl (Tok.row 4) T_decl_Watch (m0_6 ++ [[V.int .i64 n57, V.str s64, V.str s71]])] false], none⟩))))))))) else none)) else none)) (fun v70 => V.asIface v70 T_decl_given (fun w71 => V.asAgg w71 2 (fun rd72 => V.asInt (rd72 0) .i64 (fun n73 => V.asInt (rd72 1) .i64 (fun n74 => some ⟨Out.pan (V.iface T_decl_given (V.agg [V.int .i64 n73, V.int .i64 n74])), [Blk.cells T_decl_reader [V.sl .no T_api_Token es68, V.int .i64 n69, V.sl (Tok.row 0) T_api_Pair m0_2, V.sl (Tok.row 1) T_api_Pair m0_3, V.sl (Tok.row 2) T_decl_Keep m0_4, V.sl (Tok.row 3) T_decl_Break m0_5, V.sl (Tok.row 4) T_decl_Watch m0_6] false], none⟩))))))))))) (fun v63 => V.asIface v63 T_decl_given (fun w64 => V.asAgg w64 2 (fun rd65 => V.asInt (rd65 0) .i64 (fun n66 => V.asInt (rd65 1) .i64 (fun n67 => some ⟨Out.pan (V.iface T_decl_given (V.agg [V.int .i64 n66, V.int .i64 n67])), [Blk.cells T_decl_reader [V.sl .no T_api_Token es61, V.int .i64 n62, V.sl (Tok.row 0) T_api_Pair m0_2, V.sl (Tok.row 1) T_api_Pair m0_3, V.sl (Tok.row 2) T_decl_Keep m0_4, V.sl (Tok.row 3) T_decl_Break m0_5, V.sl (Tok.row 4) T_decl_Watch m0_6] false], none⟩))))))))))) (fun v56 => V.asIface v56 T_decl_given (fun w57 => V.asAgg w57 2 (fun rd58 => V.asInt (rd58 0) .i64 (fun n59 => V.asInt (rd58 1) .i64 (fun n60 => some ⟨Out.pan (V.iface T_decl_given (V.agg [V.int .i64 n59, V.int .i64 n60])), [Blk.cells T_decl_reader [V.sl .no T_api_Token es54, V.int .i64 n55, V.sl (Tok.row 0) T_api_Pair m0_2, V.sl (Tok.row 1) T_api_Pair m0_3, V.sl (Tok.row 2) T_decl_Keep m0_4, V.sl (Tok.row 3) T_decl_Break m0_5, V.sl (Tok.row 4) T_decl_Watch m0_6] false], none⟩))))))))))) (fun v48 => V.asIface v48 T_decl_given (fun w49 => V.asAgg w49 2 (fun rd50 => V.asInt (rd50 0) .i64 (fun n51 => V.asInt (rd50 1) .i64 (fun n52 => some ⟨Out.pan (V.iface T_decl_given (V.agg [V.int .i64 n51, V.int .i64 n52])), [Blk.cells T_decl_reader [V.sl .no T_api_Token es46, V.int .i64 n47, V.sl (Tok.row 0) T_api_Pair m0_2, V.sl (Tok.row 1) T_api_Pair m0_3, V.sl (Tok.row 2) T_decl_Keep m0_4, V.sl (Tok.row 3) T_decl_Break m0_5, V.sl (Tok.row 4) T_decl_Watch m0_6] false], none⟩))))))))) else (den Sp decl_reader_fail.id [V.ref 0 0, V.int .i64 (30 : Int)] [Blk.cells T_decl_reader [V.sl .no T_api_Token es39, V.int .i64 n40] false] none).bind (fun r44 => Blk.asCells (List.getD (Res.bl r44) 0 (Blk.cells T_n0 [] true)) T_decl_reader 2 (fun rd45 => V.asSl (rd45 0) T_api_Token (fun es46 => V.asInt (rd45 1) .i64 (fun n47 => Res.onOut r44 (fun v48 => V.asTup v48 0 (fun rd49 => (den Sp decl_reader_sign.id [V.ref 0 0, V.str (ByteArray.mk #[59])] [Blk.cells T_decl_reader [V.sl .no T_api_Token es46, V.int .i64 n47] false] none).bind (fun r51 => Blk.asCells (List.getD (Res.bl r51) 0 (Blk.cells T_n0 [] true)) T_decl_reader 2 (fun rd52 => V.asSl (rd52 0) T_api_Token (fun es53 => V.asInt (rd52 1) .i64 (fun n54 => Res.onOut r51 (fun v55 => V.asTup v55 0 (fun rd56 => some ⟨Out.ret (V.tup []), [Blk.cells T_decl_reader [V.sl .no T_api_Token es53, V.int .i64 n54, V.sl (Tok.row 0) T_api_Pair m0_2, V.sl (Tok.row 1) T_api_Pair m0_3, V.sl (Tok.row 2) T_decl_Keep m0_4, V.sl (Tok.row 3) T_decl_Break m0_5, V.sl (Tok.row 4) T_decl_Watch m0_6] false], none⟩)) (fun v55 => V.asIface v55 T_decl_given (fun w56 => V.asAgg w56 2 (fun rd57 => V.asInt (rd57 0) .i64 (fun n58 => V.asInt (rd57 1) .i64 (fun n59 => some ⟨Out.pan (V.iface T_decl_given (V.agg [V.int .i64 n58, V.int .i64 n59])), [Blk.cells T_decl_reader [V.sl .no T_api_Token es53, V.int .i64 n54, V.sl (Tok.row 0) T_api_Pair m0_2, V.sl (Tok.row 1) T_api_Pair m0_3, V.sl (Tok.row 2) T_decl_Keep m0_4, V.sl (Tok.row 3) T_decl_Break m0_5, V.sl (Tok.row 4) T_decl_Watch m0_6] false], none⟩))))))))))) (fun v48 => V.asIface v48 T_decl_given (fun w49 => V.asAgg w49 2 (fun rd50 => V.asInt (rd50 0) .i64 (fun n51 => V.asInt (rd50 1) .i64 (fun n52 => some ⟨Out.pan (V.iface T_decl_given (V.agg [V.int .i64 n51, V.int .i64 n52])), [Blk.cells T_decl_reader [V.sl .no T_api_Token es46, V.int .i64 n47, V.sl (Tok.row 0) T_api_Pair m0_2, V.sl (Tok.row 1) T_api_Pair m0_3, V.sl (Tok.row 2) T_decl_Keep m0_4, V.sl (Tok.row 3) T_decl_Break m0_5, V.sl (Tok.row 4) T_decl_Watch m0_6] false], none⟩))))))))))))))))))))))))))))))))))))))) := (den_eq ..).trans (by kernel_rfl)
end decl_reader_line
end Go.Proofs.YtmhnmelaodhemaaDoor
namespace Go.Proofs.YtmhnmelaodhemaaDoor
open Go Go.Proofs.Ab
namespace decl_Parse_1
theorem eq0 (c0_0 c0_1 c0_2 c0_3 c0_4 : List (List V)) (c1_0 c2_0 : Int) : den Sp id [V.ref 0 0, V.ref 1 0, V.ref 2 0] [Blk.cells T_decl_File [V.sl .no T_api_Pair c0_0, V.sl .no T_api_Pair c0_1, V.sl .no T_decl_Keep c0_2, V.sl .no T_decl_Break c0_3, V.sl .no T_decl_Watch c0_4] false, Blk.cells T_int [V.int .i64 c1_0] false, Blk.cells T_api_Errno [V.int .i64 c2_0] false] (some none) =
  (some ⟨Out.ret (V.tup []), [Blk.cells T_decl_File [V.sl .no T_api_Pair c0_0, V.sl .no T_api_Pair c0_1, V.sl .no T_decl_Keep c0_2, V.sl .no T_decl_Break c0_3, V.sl .no T_decl_Watch c0_4] false, Blk.cells T_int [V.int .i64 c1_0] false, Blk.cells T_api_Errno [V.int .i64 c2_0] false], some none⟩) := (den_eq ..).trans (by kernel_rfl)
end decl_Parse_1
namespace decl_Parse_1
theorem eq1 (c0_0 c0_1 c0_2 c0_3 c0_4 : List (List V)) (c1_0 c2_0 w_0 w_1 : Int) : den Sp id [V.ref 0 0, V.ref 1 0, V.ref 2 0] [Blk.cells T_decl_File [V.sl .no T_api_Pair c0_0, V.sl .no T_api_Pair c0_1, V.sl .no T_decl_Keep c0_2, V.sl .no T_decl_Break c0_3, V.sl .no T_decl_Watch c0_4] false, Blk.cells T_int [V.int .i64 c1_0] false, Blk.cells T_api_Errno [V.int .i64 c2_0] false] (some (some (V.iface T_decl_given (V.agg [V.int .i64 w_0, V.int .i64 w_1])))) =
  (some ⟨Out.ret (V.tup []), [Blk.cells T_decl_File [V.sl .no T_api_Pair [], V.sl .no T_api_Pair [], V.sl .no T_decl_Keep [], V.sl .no T_decl_Break [], V.sl .no T_decl_Watch []] false, Blk.cells T_int [V.int .i64 w_0] false, Blk.cells T_api_Errno [V.int .i64 w_1] false], some none⟩) := (den_eq ..).trans (by kernel_rfl)
end decl_Parse_1
namespace decl_Parse
noncomputable abbrev e (p : List Nat) := ev Sp (den Sp) id Tryd.f7.ntmps (cAt (bodyOf Tryd.f7) p)
noncomputable abbrev cn (n0 : List Nat) := canon Sp id n0
noncomputable abbrev K : K := kFin Sp (den Sp) Tryd.f7 0
noncomputable def L1_1_1_1_1_0_0 (i0 i1 : Int) (l2 : List (List V)) (i3 : Int) (l4 l5 l6 l7 l8 : List (List V)) : Option Res := LP (e [1, 1, 1, 1, 1, 0, 0, 0]) (cn [1002, 1003, 1004, 1021]) (kBlk 0 (kSeq (e [1, 1, 1, 1, 1, 1]) (K))) ([(2, (V.ref 1002 0)), (3, (V.ref 1003 0)), (4, (V.ref 1004 0)), (6, (V.ref 1021 0))], ⟨[(1002, (Blk.cells T_decl_File [V.sl (Tok.row 0) T_api_Pair [], V.sl (Tok.row 1) T_api_Pair [], V.sl (Tok.row 2) T_decl_Keep [], V.sl (Tok.row 3) T_decl_Break [], V.sl (Tok.row 4) T_decl_Watch []] false)), (1003, (Blk.cells T_int [V.int .i64 i0] false)), (1004, (Blk.cells T_api_Errno [V.int .i64 i1] false)), (1021, (Blk.cells T_decl_reader [V.sl .no T_api_Token l2, V.int .i64 i3, V.sl (Tok.row 5) T_api_Pair l4, V.sl (Tok.row 6) T_api_Pair l5, V.sl (Tok.row 7) T_decl_Keep l6, V.sl (Tok.row 8) T_decl_Break l7, V.sl (Tok.row 9) T_decl_Watch l8] false))], [0, 1, 2, 3, 4, 5, 6, 7, 8, 9], [], [(14, [V.ref 1002 0, V.ref 1003 0, V.ref 1004 0])], none⟩)
theorem L1_1_1_1_1_0_0_eq (i0 i1 : Int) (l2 : List (List V)) (i3 : Int) (l4 l5 l6 l7 l8 : List (List V)) : L1_1_1_1_1_0_0 i0 i1 l2 i3 l4 l5 l6 l7 l8 =
  (if (((0 : Int) <= i3) ∧ (i3 < (l2.length : Int))) then (V.asInt (List.getD (List.getD l2 (Int.toNat i3) []) 0 V.undef) .i64 (fun n22 => bif (n22 != (0 : Int)) then (den Sp decl_reader_line.id [V.ref 0 0] [Blk.cells T_decl_reader [V.sl .no T_api_Token l2, V.int .i64 i3, V.sl (Tok.row 0) T_api_Pair l4, V.sl (Tok.row 1) T_api_Pair l5, V.sl (Tok.row 2) T_decl_Keep l6, V.sl (Tok.row 3) T_decl_Break l7, V.sl (Tok.row 4) T_decl_Watch l8] false] none).bind (fun r24 => Blk.asCells (List.getD (Res.bl r24) 0 (Blk.cells T_n0 [] true)) T_decl_reader 7 (fun rd25 => V.asSl (rd25 0) T_api_Token (fun es26 => V.asInt (rd25 1) .i64 (fun n27 => V.asSlR (rd25 2) 0 T_api_Pair (fun es28 => V.asSlR (rd25 3) 1 T_api_Pair (fun es29 => V.asSlR (rd25 4) 2 T_decl_Keep (fun es30 => V.asSlR (rd25 5) 3 T_decl_Break (fun es31 => V.asSlR (rd25 6) 4 T_decl_Watch (fun es32 => Res.onOut r24 (fun v33 => V.asTup v33 0 (fun rd34 => L1_1_1_1_1_0_0 i0 i1 es26 n27 es28 es29 es30 es31 es32)) (fun v33 => V.asIface v33 T_decl_given (fun w34 => V.asAgg w34 2 (fun rd35 => V.asInt (rd35 0) .i64 (fun n36 => V.asInt (rd35 1) .i64 (fun n37 => (den Sp decl_Parse_1.id [V.ref 0 0, V.ref 1 0, V.ref 2 0] [Blk.cells T_decl_File [V.sl .no T_api_Pair [], V.sl .no T_api_Pair [], V.sl .no T_decl_Keep [], V.sl .no T_decl_Break [], V.sl .no T_decl_Watch []] false, Blk.cells T_int [V.int .i64 i0] false, Blk.cells T_api_Errno [V.int .i64 i1] false] (some (some (V.iface T_decl_given (V.agg [V.int .i64 n36, V.int .i64 n37]))))).bind (fun r38 => Blk.asCells (List.getD (Res.bl r38) 0 (Blk.cells T_n0 [] true)) T_decl_File 5 (fun rd39 => V.asSl (rd39 0) T_api_Pair (fun es40 => V.asSl (rd39 1) T_api_Pair (fun es41 => V.asSl (rd39 2) T_decl_Keep (fun es42 => V.asSl (rd39 3) T_decl_Break (fun es43 => V.asSl (rd39 4) T_decl_Watch (fun es44 => Blk.asCells (List.getD (Res.bl r38) 1 (Blk.cells T_n0 [] true)) T_int 1 (fun rd45 => V.asInt (rd45 0) .i64 (fun n46 => Blk.asCells (List.getD (Res.bl r38) 2 (Blk.cells T_n0 [] true)) T_api_Errno 1 (fun rd47 => V.asInt (rd47 0) .i64 (fun n48 => Res.onRet r38 (fun v49 => V.asTup v49 0 (fun rd50 => Res.onPn r38 (some ⟨Out.ret (V.tup [V.agg [V.sl .no T_api_Pair es40, V.sl .no T_api_Pair es41, V.sl .no T_decl_Keep es42, V.sl .no T_decl_Break es43, V.sl .no T_decl_Watch es44], V.int .i64 n46, V.int .i64 n48]), [], none⟩) (fun v51 => some ⟨Out.pan (V.iface T_decl_given (V.agg [V.int .i64 n36, V.int .i64 n37])), [], none⟩)))))))))))))))))))))))))))) else (den Sp decl_Parse_1.id [V.ref 0 0, V.ref 1 0, V.ref 2 0] [Blk.cells T_decl_File [V.sl .no T_api_Pair l4, V.sl .no T_api_Pair l5, V.sl .no T_decl_Keep l6, V.sl .no T_decl_Break l7, V.sl .no T_decl_Watch l8] false, Blk.cells T_int [V.int .i64 (0 : Int)] false, Blk.cells T_api_Errno [V.int .i64 (0 : Int)] false] (some none)).bind (fun r24 => Blk.asCells (List.getD (Res.bl r24) 0 (Blk.cells T_n0 [] true)) T_decl_File 5 (fun rd25 => V.asSl (rd25 0) T_api_Pair (fun es26 => V.asSl (rd25 1) T_api_Pair (fun es27 => V.asSl (rd25 2) T_decl_Keep (fun es28 => V.asSl (rd25 3) T_decl_Break (fun es29 => V.asSl (rd25 4) T_decl_Watch (fun es30 => Blk.asCells (List.getD (Res.bl r24) 1 (Blk.cells T_n0 [] true)) T_int 1 (fun rd31 => V.asInt (rd31 0) .i64 (fun n32 => Blk.asCells (List.getD (Res.bl r24) 2 (Blk.cells T_n0 [] true)) T_api_Errno 1 (fun rd33 => V.asInt (rd33 0) .i64 (fun n34 => Res.onRet r24 (fun v35 => V.asTup v35 0 (fun rd36 => Res.onPn r24 (some ⟨Out.ret (V.tup [V.agg [V.sl .no T_api_Pair es26, V.sl .no T_api_Pair es27, V.sl .no T_decl_Keep es28, V.sl .no T_decl_Break es29, V.sl .no T_decl_Watch es30], V.int .i64 n32, V.int .i64 n34]), [], none⟩) (fun v37 => some ⟨Out.ret (V.tup [V.agg [V.sl .no T_api_Pair es26, V.sl .no T_api_Pair es27, V.sl .no T_decl_Keep es28, V.sl .no T_decl_Break es29, V.sl .no T_decl_Watch es30], V.int .i64 n32, V.int .i64 n34]), [], none⟩)))))))))))))))) else none) := (LP_eq ..).trans (by kernel_rfl)
theorem eq (a0 : ByteArray) : den Sp id [V.str a0] [] none =
  (den Sp lex_Scan.id [V.str a0] [] none).bind (fun r3 => Res.onRet r3 (fun v4 => V.asTup v4 3 (fun rd5 => V.asSl (rd5 0) T_api_Token (fun es6 => V.asInt (rd5 1) .i64 (fun n7 => V.asInt (rd5 2) .i64 (fun n8 => bif (n8 != (0 : Int)) then (some ⟨Out.ret (V.tup [V.agg [V.sl .no T_api_Pair [], V.sl .no T_api_Pair [], V.sl .no T_decl_Keep [], V.sl .no T_decl_Break [], V.sl .no T_decl_Watch []], V.int .i64 n7, V.int .i64 n8]), [], none⟩) else (L1_1_1_1_1_0_0 n7 n8 es6 (0 : Int) [] [] [] [] []))))))) := (den_eq ..).trans (by kernel_rfl)
end decl_Parse
end Go.Proofs.YtmhnmelaodhemaaDoor
namespace Go.Proofs.YtmhnmelaodhemaaDoor
open Go Go.Proofs.Ab Go.Proofs.Px
attribute [local congr] bind_h asInt_h asBool_h asStr_h asSl_h asSlR_h asAgg_h asTup_h asIface_h asCells_h onRet_h onOut_h cond_h
theorem stopR_mk (l : List Tk) (k : Nat) : stopR l k = andR (sideR l k) fun s k => andR (nameR l k) fun p k => andR (intR l k) fun n k => andR (whenR l k) fun w k => .ok (⟨s, p, n, w⟩, k) := rfl
theorem Pai_list (x : Pai) : [V.str (B x.procA), V.str (B x.procB), V.str (B x.varA), V.str (B x.varB)] = x.v := rfl
theorem Bk_list (x : Bk) : [V.int .i64 x.side, V.str (B x.prc), V.int .i64 x.mark, V.sl .no T_api_Expr (x.whn.map Ex.v)] = x.v := rfl
theorem lb : (∀ (x : Bk) (k : (Nat -> V) -> Option Res), V.asAgg (.agg x.v) 4 k = k (fun j => x.v.getD j .undef)) ∧ (∀ (x : Pai) (k : (Nat -> V) -> Option Res), V.asAgg (.agg x.v) 4 k = k (fun j => x.v.getD j .undef)) ∧
 (∀ x : Pai, x.v.getD 0 .undef = .str (B x.procA)) ∧ (∀ x : Pai, x.v.getD 1 .undef = .str (B x.procB)) ∧ (∀ x : Pai, x.v.getD 2 .undef = .str (B x.varA)) ∧ (∀ x : Pai, x.v.getD 3 .undef = .str (B x.varB)) ∧
 (∀ x : Bk, x.v.getD 0 .undef = .int .i64 x.side) ∧ (∀ x : Bk, x.v.getD 1 .undef = .str (B x.prc)) ∧ (∀ x : Bk, x.v.getD 2 .undef = .int .i64 x.mark) ∧ (∀ x : Bk, x.v.getD 3 .undef = .sl .no T_api_Expr (x.whn.map Ex.v)) :=
 ⟨Bk.asAgg_v, Pai.asAgg_v, Pai.v_0, Pai.v_1, Pai.v_2, Pai.v_3, Bk.v_0, Bk.v_1, Bk.v_2, Bk.v_3⟩
theorem rds_err {l : List Tk} (hl : Ended l) : ∀ m k : Nat, l.length - k <= m -> k < l.length -> (∀ d e, oneW l d k = .error e -> e.2 ≠ 0) ∧ (∀ n d e, tightW l n d k = .error e -> e.2 ≠ 0) ∧ (∀ n d p y e, loopW l n d p y k = .error e -> e.2 ≠ 0) := by
 intro m
 induction m with
 | zero => intro k h1 h2; omega
 | succ m ih =>
  intro k hm hk
  have part : ∀ {d : Int} {k : Nat} {r : Rd} {e : Int × Int}, (∀ e, r = .error e -> e.2 ≠ 0) -> partR l d k r = .error e -> e.2 ≠ 0 := fun hr h => by
   unfold partR at h
   split at h
   ·cases h; simp
   ·split at h
    ·cases h; simp
    ·exact hr _ h
  have want : ∀ {s : List UInt8} {r : Rd} {f : Ex -> Ex} {e : Int × Int}, (∀ e, r = .error e -> e.2 ≠ 0) -> wantR l s r f = .error e -> e.2 ≠ 0 := fun hr h => by
   unfold wantR at h
   split at h
   ·rename_i e0; cases h; exact hr _ rfl
   ·split at h
    ·cases h
    ·cases h; simp
  have one : ∀ d e, oneW l d k = .error e -> e.2 ≠ 0 := by
   intro d e h
   rw [oneW, dif_pos hk] at h
   split at h
   ·rename_i c
    have hk1 : k + 1 < l.length := by rcases c with c | c <;> exact hl.isT hk c
    refine part (fun e h => ?_) h
    split at h
    ·rename_i e1 h1; cases h; exact (ih (k + 1) (by omega) hk1).1 _ _ h1
    ·cases h
   split at h
   ·rename_i c
    have hk1 := hl.isT hk c
    exact want (fun e h => part (fun e h => (ih (k + 1) (by omega) hk1).2.1 _ _ _ h) h) h
   split at h
   ·cases h
   split at h
   ·cases h
   split at h
   ·cases h
   split at h
   ·cases h; simp
   have hk1 : k + 1 < l.length := hl.next hk (by omega)
   split at h
   ·rename_i c
    have hk2 := hl.isT hk1 c
    exact want (fun e h => part (fun e h => (ih (k + 2) (by omega) hk2).2.1 _ _ _ h) h) h
   ·cases h
  have loop : ∀ n d p y e, loopW l n d p y k = .error e -> e.2 ≠ 0 := by
   intro n d p y e h
   rw [loopW, dif_pos hk] at h
   split at h
   ·cases h
   ·rename_i c
    have hk1 : k + 1 < l.length := hl.next hk (by
     intro h0; apply c; left; unfold signT; rw [if_neg (by omega)])
    split at h
    ·rename_i e1 h1; cases h; exact (ih (k + 1) (by omega) hk1).2.1 _ _ _ h1
    ·rename_i z i hz
     have h1 := tight_goes hl hk1 hz
     rw [dif_pos (by omega)] at h
     exact (ih i (by omega) h1.2).2.2 _ _ _ _ _ h
  refine ⟨one, fun n d e h => ?_, loop⟩
  rw [tightW] at h
  split at h
  ·rename_i e1 h1; cases h; exact one _ _ h1
  ·rename_i y i hy
   have h1 := one_goes hl hk hy
   rw [dif_pos ⟨h1.1, hk⟩] at h
   exact (ih i (by omega) h1.2).2.2 _ _ _ _ _ h
theorem rd_err {l : List Tk} (hl : Ended l) {k : Nat} (hk : k < l.length) {e : Int × Int} (h : partR l 1 k (tightW l 1 1 k) = .error e) : e.2 ≠ 0 := by
 unfold partR at h
 split at h
 ·cases h; simp
 ·split at h
  ·cases h; simp
  ·exact (rds_err hl _ k (Nat.le_refl _) hk).2.1 _ _ _ h
section
variable {l : List Tk} (hl : Ended l) (hn : l.length <= 100000)
include hl hn
theorem whenR_step {k : Nat} (hk : k < l.length) {x : List Ex} {j : Nat} (h : whenR l k = .ok (x, j)) : k <= j ∧ j < l.length := by
 unfold whenR at h
 split at h
 ·rename_i c
  have hk1 := hl.next hk (by rw [(isW_kind c).1]; decide)
  obtain ⟨y, i, h1, h2⟩ := andR_ok h
  have := tight_goes hl hk1 (partR_ok h1)
  cases h2; omega
 ·cases h; omega
theorem stopR_step {k : Nat} (hk : k < l.length) {x : Bk} {j : Nat} (h : stopR l k = .ok (x, j)) : Step l k j := by
 rw [stopR_mk] at h
 obtain ⟨_, _, h1, h⟩ := andR_ok h
 have s1 := (sideR_step hl hk h1).1
 obtain ⟨_, _, h1, h⟩ := andR_ok h
 have s2 := (nameR_step hl s1.end_ h1).1
 obtain ⟨_, _, h1, h⟩ := andR_ok h
 have s3 := (intR_step hl s2.end_ h1).1
 obtain ⟨_, _, h1, h⟩ := andR_ok h
 have s4 := whenR_step hl hn s3.end_ h1
 have := s1.lt
 have := s2.lt
 have := s3.lt
 cases h
 exact ⟨by omega, s4.2⟩
theorem sameR_step {k : Nat} (hk : k < l.length) {x : Pai} {j : Nat} (h : sameR l k = .ok (x, j)) : Step l k j := by
 have hh : ∀ {k : Nat}, k < l.length -> ∀ {x : List UInt8 × List UInt8} {j : Nat}, halfR l k = .ok (x, j) -> Step l k j := by
  intro k hk x j h
  unfold halfR at h
  obtain ⟨_, _, h1, h⟩ := andR_ok h
  have s1 := (nameR_step hl hk h1).1
  obtain ⟨_, _, h1, h⟩ := andR_ok h
  have s2 := (signR_step hl s1.end_ h1).1
  obtain ⟨_, _, h1, h⟩ := andR_ok h
  have s3 := (nameR_step hl s2.end_ h1).1
  obtain ⟨_, _, h1, h⟩ := andR_ok h
  have s4 := (signR_step hl s3.end_ h1).1
  have := s1.lt
  have := s2.lt
  have := s3.lt
  have := s4.lt
  cases h
  exact ⟨by omega, s4.end_⟩
 unfold sameR at h
 obtain ⟨_, _, h1, h⟩ := andR_ok h
 have s1 := hh hk h1
 obtain ⟨_, _, h1, h⟩ := andR_ok h
 have s2 := hh s1.end_ h1
 have := s1.lt
 have := s2.lt
 cases h
 exact ⟨by omega, s2.end_⟩
theorem stop_d (hE : ReadsE syntax_ReadExpr.id l) {k : Nat} (hk : k < l.length) : RdD l (fun b : Bk => .agg b.v) (stopR l k) (den Sp decl_reader_stop.id [.ref 0 0] [rd2 l k] none) := by
 have h1 := side_d hl hn hk
 rw [stopR_mk]
 unfold RdD at *
 cases c1 : sideR l k with
 | error e => rw [c1] at h1; obtain ⟨j, h1⟩ := h1; refine ⟨j, ?_⟩; unfold rd2 givenD at *; rw [decl_reader_stop.eq]; simp only [h1, lz, lx, if_true, if_false, lb]
 | ok r1 =>
 obtain ⟨x1, k1⟩ := r1
 rw [c1] at h1
 have s1 := (sideR_step hl hk c1).1.end_
 have h2 := name_d hl hn s1
 unfold RdD at h2
 simp only [andR] at h1 ⊢
 cases c2 : nameR l k1 with
 | error e => rw [c2] at h2; obtain ⟨j, h2⟩ := h2; refine ⟨j, ?_⟩; unfold rd2 givenD at *; rw [decl_reader_stop.eq]; simp only [h1, h2, lz, lx, if_true, if_false, lb]
 | ok r2 =>
 obtain ⟨x2, k2⟩ := r2
 rw [c2] at h2
 have s2 := (nameR_step hl s1 c2).1.end_
 have hf := fail_d hl hn s2 30
 have r := row_in s2
 have w2 := wr1 (show k2 < 1099511627776 by omega)
 simp only [andR] at h2 ⊢
 unfold intR wrongR
 by_cases c3 : (tk l k2).kind = 2
 ·rw [if_pos c3]
  have c3' : ((tk l k2).kind != 2) = false := by simpa using c3
  simp only [andR]
  have s3 := hl.next s2 (by omega)
  have hw := word_d hl hn s3 [119, 104, 101, 110]
  have w3 := wr1 (show k2 + 1 < 1099511627776 by omega)
  unfold whenR
  by_cases c4 : isW (tk l (k2 + 1)) [119, 104, 101, 110] = true
  ·rw [if_pos c4]
   rw [c4] at hw
   have s4 := hl.next s3 (by rw [(isW_kind c4).1]; decide)
   have hr := hE (k2 + 1 + 1) s4
   unfold readE at hr
   cases c5 : partR l 1 (k2 + 1 + 1) (tightW l 1 1 (k2 + 1 + 1)) with
   | error e =>
    rw [c5] at hr
    have e0 : (e.2 != 0) = true := by
     have := rd_err hl s4 c5
     simpa using this
    refine ⟨k2 + 1 + 1, ?_⟩
    unfold rd2 givenD at *
    rw [decl_reader_stop.eq]
    simp only [h1, h2, hf, hw, hr, c3', e0, w2, w3, if_pos r, Int.toNat_natCast, tok_g s2, tkv_0, tkv_1, tkv_2, tkv_3, lz, lx, if_true, if_false, lb]
   | ok q =>
    obtain ⟨x, j⟩ := q
    rw [c5] at hr
    simp only [andR] at hr ⊢
    unfold rd2 givenD at *
    rw [decl_reader_stop.eq]
    simp only [h1, h2, hf, hw, hr, c3', w2, w3, if_pos r, Int.toNat_natCast, tok_g s2, tkv_0, tkv_1, tkv_2, tkv_3, lz, lx, if_true, if_false, lb]
    rw [Bk.v_mk]; rfl
  ·rw [if_neg c4]
   rw [show isW (tk l (k2 + 1)) [119, 104, 101, 110] = false by simpa using c4] at hw
   simp only [andR]
   unfold rd2 givenD at *
   rw [decl_reader_stop.eq]
   simp only [h1, h2, hf, hw, c3', w2, w3, if_pos r, Int.toNat_natCast, tok_g s2, tkv_0, tkv_1, tkv_2, tkv_3, lz, lx, if_true, if_false, lb]
   rw [Bk.v_mk]; rfl
 ·rw [if_neg c3]
  have c3' : ((tk l k2).kind != 2) = true := by simpa using c3
  refine ⟨k2, ?_⟩
  unfold rd2 givenD at *
  rw [decl_reader_stop.eq]
  simp only [h1, h2, hf, c3', w2, if_pos r, Int.toNat_natCast, tok_g s2, tkv_0, tkv_1, tkv_2, tkv_3, lz, lx, if_true, if_false, lb]
def rd7 (l : List Tk) (k : Nat) (f : Fl) : Blk := .cells T_decl_reader [.sl .no T_api_Token (l.map Tk.v), .int .i64 k, .sl (.row 0) T_api_Pair (f.pairs.map Pai.v), .sl (.row 1) T_api_Pair (f.sames.map Pai.v), .sl (.row 2) T_decl_Keep (f.keeps.map Kp.v), .sl (.row 3) T_decl_Break (f.breaks.map Bk.v), .sl (.row 4) T_decl_Watch (f.watches.map Wt.v)] false
def RdL (l : List Tk) (r : Rf Fl) (o : Option Res) : Prop := match r with
 | .ok (g, j) => o = some ⟨.ret (.tup []), [rd7 l j g], none⟩
 | .error e => ∃ (j : Nat) (g : Fl), o = some ⟨.pan (givenD e), [rd7 l j g], none⟩
theorem app_one {α : Type} (v : α -> List V) (xs : List α) (x : α) : xs.map v ++ [v x] = (xs ++ [x]).map v := by rw [List.map_append]; rfl
theorem line_pair_d (hE : ReadsE syntax_ReadExpr.id l) {k : Nat} (hk : k < l.length) (f : Fl)  (c : isW (tk l k) [112, 97, 105, 114] = true) : RdL l (lineR l f k) (den Sp decl_reader_line.id [.ref 0 0] [rd7 l k f] none) := by
 have hw0 := word_d hl hn hk [112, 97, 105, 114]
 rw [c] at hw0
 unfold lineR itemR
 rw [c, if_pos rfl]
 unfold fullR
 have hf : RdD l (fun _ : Unit => .tup []) (if 40 <= (f.pairs.map Pai.v).length then .error ((tk l k).at_, 2) else .ok ((), k)) (den Sp decl_reader_full.id [.ref 0 0, .int .i64 k, .int .i64 (((f.pairs.map Pai.v).length : Nat) : Int), .int .i64 40] [rd2 l k] none) := full_d hl hn (k := k) k hk (f.pairs.map Pai.v).length 40
 unfold RdD at hf
 have ln : (f.pairs.map Pai.v).length = f.pairs.length := List.length_map ..
 by_cases c4 : 40 <= f.pairs.length
 ·rw [if_pos c4]
  rw [if_pos (by omega)] at hf
  obtain ⟨j, hf⟩ := hf
  refine ⟨j, f, ?_⟩
  (try unfold rd7 at *); (try unfold rd2 at *); (try unfold givenD at *); rw [decl_reader_line.eq]
  simp only [hw0, hf, lz, lx, if_true, if_false, lb, Int.cast_ofNat_Int]
 rw [if_neg c4]
 rw [if_neg (by omega)] at hf
 simp only at hf
 have hF : decide ((((f.pairs.map Pai.v).length : Nat) : Int) >= 40) = false := decide_eq_false (by omega)
 have hM : ∀ (x : List V) (a b : Option Res), (if (f.pairs.map Pai.v).length + List.length [x] <= most then a else b) = a := fun x a b => if_pos (by show _ + 1 <= 1099511627776; omega)
 have w1 := wr1 (show k < 1099511627776 by omega)
 have s0 : k + 1 < l.length := hl.next hk (by rw [(isW_kind c).1]; decide)
 have h1 := name_d hl hn s0
 unfold RdD at h1
 simp only [andR]
 cases c_1 : nameR l (k + 1) with
 | error e => rw [c_1] at h1; obtain ⟨j, h1⟩ := h1; refine ⟨j, f, ?_⟩; (try unfold rd7 at *); (try unfold rd2 at *); (try unfold givenD at *); rw [decl_reader_line.eq]; simp only [hw0, hf, w1, hF, hM, h1, lz, lx, if_true, if_false, lb, Int.cast_ofNat_Int]
 | ok r1 =>
 obtain ⟨x1, k1⟩ := r1
 rw [c_1] at h1
 simp only at h1
 have s1 := (nameR_step hl s0 c_1).1.end_
 have h2 := name_d hl hn s1
 unfold RdD at h2
 simp only [andR]
 cases c_2 : nameR l k1 with
 | error e => rw [c_2] at h2; obtain ⟨j, h2⟩ := h2; refine ⟨j, f, ?_⟩; (try unfold rd7 at *); (try unfold rd2 at *); (try unfold givenD at *); rw [decl_reader_line.eq]; simp only [hw0, hf, w1, hF, hM, h1, h2, lz, lx, if_true, if_false, lb, Int.cast_ofNat_Int]
 | ok r2 =>
 obtain ⟨x2, k2⟩ := r2
 rw [c_2] at h2
 simp only at h2
 have s2 := (nameR_step hl s1 c_2).1.end_
 have hs := sign_d hl hn s2 [59]
 unfold RdD at hs
 simp only [andR]
 have ap := app_one (l := l) hl hn Pai.v f.pairs ⟨x1, x2, [], []⟩
 rw [Pai.v_mk] at ap
 cases c_s : signR l [59] k2 with
 | error e => rw [c_s] at hs; obtain ⟨j, hs⟩ := hs; refine ⟨j, { f with pairs := f.pairs ++ [⟨x1, x2, [], []⟩] }, ?_⟩; (try unfold rd7 at *); (try unfold rd2 at *); (try unfold givenD at *); rw [decl_reader_line.eq]; simp only [hw0, hf, w1, hF, hM, h1, h2, hs, ap, lz, lx, if_true, if_false, lb, Int.cast_ofNat_Int]
 | ok rs =>
 obtain ⟨xs, ks⟩ := rs
 rw [c_s] at hs
 simp only at hs
 unfold RdL
 simp only [andR]
 (try unfold rd7 at *); (try unfold rd2 at *); (try unfold givenD at *); rw [decl_reader_line.eq]
 simp only [hw0, hf, w1, hF, hM, h1, h2, hs, ap, lz, lx, if_true, if_false, lb, Int.cast_ofNat_Int]
theorem line_same_d (hE : ReadsE syntax_ReadExpr.id l) {k : Nat} (hk : k < l.length) (f : Fl) (n0 : isW (tk l k) [112, 97, 105, 114] = false) (c : isW (tk l k) [115, 97, 109, 101] = true) : RdL l (lineR l f k) (den Sp decl_reader_line.id [.ref 0 0] [rd7 l k f] none) := by
 have hw0 := word_d hl hn hk [112, 97, 105, 114]
 rw [n0] at hw0
 have hw1 := word_d hl hn hk [115, 97, 109, 101]
 rw [c] at hw1
 unfold lineR itemR
 rw [n0, if_neg (fun h => Bool.noConfusion h)]
 rw [c, if_pos rfl]
 unfold fullR
 have hf : RdD l (fun _ : Unit => .tup []) (if 40 <= (f.sames.map Pai.v).length then .error ((tk l k).at_, 2) else .ok ((), k)) (den Sp decl_reader_full.id [.ref 0 0, .int .i64 k, .int .i64 (((f.sames.map Pai.v).length : Nat) : Int), .int .i64 40] [rd2 l k] none) := full_d hl hn (k := k) k hk (f.sames.map Pai.v).length 40
 unfold RdD at hf
 have ln : (f.sames.map Pai.v).length = f.sames.length := List.length_map ..
 by_cases c4 : 40 <= f.sames.length
 ·rw [if_pos c4]
  rw [if_pos (by omega)] at hf
  obtain ⟨j, hf⟩ := hf
  refine ⟨j, f, ?_⟩
  (try unfold rd7 at *); (try unfold rd2 at *); (try unfold givenD at *); rw [decl_reader_line.eq]
  simp only [hw0, hw1, hf, lz, lx, if_true, if_false, lb, Int.cast_ofNat_Int]
 rw [if_neg c4]
 rw [if_neg (by omega)] at hf
 simp only at hf
 have hF : decide ((((f.sames.map Pai.v).length : Nat) : Int) >= 40) = false := decide_eq_false (by omega)
 have hM : ∀ (x : List V) (a b : Option Res), (if (f.sames.map Pai.v).length + List.length [x] <= most then a else b) = a := fun x a b => if_pos (by show _ + 1 <= 1099511627776; omega)
 have w1 := wr1 (show k < 1099511627776 by omega)
 have s0 : k + 1 < l.length := hl.next hk (by rw [(isW_kind c).1]; decide)
 have h1 := same_d hl hn s0
 unfold RdD at h1
 simp only [andR]
 cases c_1 : sameR l (k + 1) with
 | error e => rw [c_1] at h1; obtain ⟨j, h1⟩ := h1; refine ⟨j, f, ?_⟩; (try unfold rd7 at *); (try unfold rd2 at *); (try unfold givenD at *); rw [decl_reader_line.eq]; simp only [hw0, hw1, hf, w1, hF, hM, h1, lz, lx, if_true, if_false, lb, Int.cast_ofNat_Int]
 | ok r1 =>
 obtain ⟨x1, k1⟩ := r1
 rw [c_1] at h1
 simp only at h1
 have s1 := (sameR_step hl hn s0 c_1).end_
 have hs := sign_d hl hn s1 [59]
 unfold RdD at hs
 simp only [andR]
 have ap := app_one (l := l) hl hn Pai.v f.sames x1
 have vv := Pai_list x1
 cases c_s : signR l [59] k1 with
 | error e => rw [c_s] at hs; obtain ⟨j, hs⟩ := hs; refine ⟨j, { f with sames := f.sames ++ [x1] }, ?_⟩; (try unfold rd7 at *); (try unfold rd2 at *); (try unfold givenD at *); rw [decl_reader_line.eq]; simp only [hw0, hw1, hf, w1, hF, hM, h1, hs, vv, ap, lz, lx, if_true, if_false, lb, Int.cast_ofNat_Int]
 | ok rs =>
 obtain ⟨xs, ks⟩ := rs
 rw [c_s] at hs
 simp only at hs
 unfold RdL
 simp only [andR]
 (try unfold rd7 at *); (try unfold rd2 at *); (try unfold givenD at *); rw [decl_reader_line.eq]
 simp only [hw0, hw1, hf, w1, hF, hM, h1, hs, vv, ap, lz, lx, if_true, if_false, lb, Int.cast_ofNat_Int]
theorem line_keep_d (hE : ReadsE syntax_ReadExpr.id l) {k : Nat} (hk : k < l.length) (f : Fl) (n0 : isW (tk l k) [112, 97, 105, 114] = false) (n1 : isW (tk l k) [115, 97, 109, 101] = false) (c : isW (tk l k) [107, 101, 101, 112] = true) : RdL l (lineR l f k) (den Sp decl_reader_line.id [.ref 0 0] [rd7 l k f] none) := by
 have hw0 := word_d hl hn hk [112, 97, 105, 114]
 rw [n0] at hw0
 have hw1 := word_d hl hn hk [115, 97, 109, 101]
 rw [n1] at hw1
 have hw2 := word_d hl hn hk [107, 101, 101, 112]
 rw [c] at hw2
 unfold lineR itemR
 rw [n0, if_neg (fun h => Bool.noConfusion h)]
 rw [n1, if_neg (fun h => Bool.noConfusion h)]
 rw [c, if_pos rfl]
 unfold fullR
 have hf : RdD l (fun _ : Unit => .tup []) (if 40 <= (f.keeps.map Kp.v).length then .error ((tk l k).at_, 2) else .ok ((), k)) (den Sp decl_reader_full.id [.ref 0 0, .int .i64 k, .int .i64 (((f.keeps.map Kp.v).length : Nat) : Int), .int .i64 40] [rd2 l k] none) := full_d hl hn (k := k) k hk (f.keeps.map Kp.v).length 40
 unfold RdD at hf
 have ln : (f.keeps.map Kp.v).length = f.keeps.length := List.length_map ..
 by_cases c4 : 40 <= f.keeps.length
 ·rw [if_pos c4]
  rw [if_pos (by omega)] at hf
  obtain ⟨j, hf⟩ := hf
  refine ⟨j, f, ?_⟩
  (try unfold rd7 at *); (try unfold rd2 at *); (try unfold givenD at *); rw [decl_reader_line.eq]
  simp only [hw0, hw1, hw2, hf, lz, lx, if_true, if_false, lb, Int.cast_ofNat_Int]
 rw [if_neg c4]
 rw [if_neg (by omega)] at hf
 simp only at hf
 have hF : decide ((((f.keeps.map Kp.v).length : Nat) : Int) >= 40) = false := decide_eq_false (by omega)
 have hM : ∀ (x : List V) (a b : Option Res), (if (f.keeps.map Kp.v).length + List.length [x] <= most then a else b) = a := fun x a b => if_pos (by show _ + 1 <= 1099511627776; omega)
 have w1 := wr1 (show k < 1099511627776 by omega)
 have s0 : k + 1 < l.length := hl.next hk (by rw [(isW_kind c).1]; decide)
 have h1 := side_d hl hn s0
 unfold RdD at h1
 simp only [keepR, andR]
 cases c_1 : sideR l (k + 1) with
 | error e => rw [c_1] at h1; obtain ⟨j, h1⟩ := h1; refine ⟨j, f, ?_⟩; (try unfold rd7 at *); (try unfold rd2 at *); (try unfold givenD at *); rw [decl_reader_line.eq]; simp only [hw0, hw1, hw2, hf, w1, hF, hM, h1, lz, lx, if_true, if_false, lb, Int.cast_ofNat_Int]
 | ok r1 =>
 obtain ⟨x1, k1⟩ := r1
 rw [c_1] at h1
 simp only at h1
 have s1 := (sideR_step hl s0 c_1).1.end_
 have h2 := name_d hl hn s1
 unfold RdD at h2
 simp only [andR]
 cases c_2 : nameR l k1 with
 | error e => rw [c_2] at h2; obtain ⟨j, h2⟩ := h2; refine ⟨j, f, ?_⟩; (try unfold rd7 at *); (try unfold rd2 at *); (try unfold givenD at *); rw [decl_reader_line.eq]; simp only [hw0, hw1, hw2, hf, w1, hF, hM, h1, h2, lz, lx, if_true, if_false, lb, Int.cast_ofNat_Int]
 | ok r2 =>
 obtain ⟨x2, k2⟩ := r2
 rw [c_2] at h2
 simp only at h2
 have s2 := (nameR_step hl s1 c_2).1.end_
 have h3 := name_d hl hn s2
 unfold RdD at h3
 simp only [andR]
 cases c_3 : nameR l k2 with
 | error e => rw [c_3] at h3; obtain ⟨j, h3⟩ := h3; refine ⟨j, f, ?_⟩; (try unfold rd7 at *); (try unfold rd2 at *); (try unfold givenD at *); rw [decl_reader_line.eq]; simp only [hw0, hw1, hw2, hf, w1, hF, hM, h1, h2, h3, lz, lx, if_true, if_false, lb, Int.cast_ofNat_Int]
 | ok r3 =>
 obtain ⟨x3, k3⟩ := r3
 rw [c_3] at h3
 simp only at h3
 have s3 := (nameR_step hl s2 c_3).1.end_
 have hs := sign_d hl hn s3 [59]
 unfold RdD at hs
 simp only [andR]
 have ap := app_one (l := l) hl hn Kp.v f.keeps ⟨x1, x2, x3⟩
 rw [Kp.v_mk] at ap
 cases c_s : signR l [59] k3 with
 | error e => rw [c_s] at hs; obtain ⟨j, hs⟩ := hs; refine ⟨j, { f with keeps := f.keeps ++ [⟨x1, x2, x3⟩] }, ?_⟩; (try unfold rd7 at *); (try unfold rd2 at *); (try unfold givenD at *); rw [decl_reader_line.eq]; simp only [hw0, hw1, hw2, hf, w1, hF, hM, h1, h2, h3, hs, ap, lz, lx, if_true, if_false, lb, Int.cast_ofNat_Int]
 | ok rs =>
 obtain ⟨xs, ks⟩ := rs
 rw [c_s] at hs
 simp only at hs
 unfold RdL
 simp only [andR]
 (try unfold rd7 at *); (try unfold rd2 at *); (try unfold givenD at *); rw [decl_reader_line.eq]
 simp only [hw0, hw1, hw2, hf, w1, hF, hM, h1, h2, h3, hs, ap, lz, lx, if_true, if_false, lb, Int.cast_ofNat_Int]
theorem line_break_d (hE : ReadsE syntax_ReadExpr.id l) {k : Nat} (hk : k < l.length) (f : Fl) (n0 : isW (tk l k) [112, 97, 105, 114] = false) (n1 : isW (tk l k) [115, 97, 109, 101] = false) (n2 : isW (tk l k) [107, 101, 101, 112] = false) (c : isW (tk l k) [98, 114, 101, 97, 107] = true) : RdL l (lineR l f k) (den Sp decl_reader_line.id [.ref 0 0] [rd7 l k f] none) := by
 have hw0 := word_d hl hn hk [112, 97, 105, 114]
 rw [n0] at hw0
 have hw1 := word_d hl hn hk [115, 97, 109, 101]
 rw [n1] at hw1
 have hw2 := word_d hl hn hk [107, 101, 101, 112]
 rw [n2] at hw2
 have hw3 := word_d hl hn hk [98, 114, 101, 97, 107]
 rw [c] at hw3
 unfold lineR itemR
 rw [n0, if_neg (fun h => Bool.noConfusion h)]
 rw [n1, if_neg (fun h => Bool.noConfusion h)]
 rw [n2, if_neg (fun h => Bool.noConfusion h)]
 rw [c, if_pos rfl]
 unfold fullR
 have hf : RdD l (fun _ : Unit => .tup []) (if 40 <= (f.breaks.map Bk.v).length then .error ((tk l k).at_, 2) else .ok ((), k)) (den Sp decl_reader_full.id [.ref 0 0, .int .i64 k, .int .i64 (((f.breaks.map Bk.v).length : Nat) : Int), .int .i64 40] [rd2 l k] none) := full_d hl hn (k := k) k hk (f.breaks.map Bk.v).length 40
 unfold RdD at hf
 have ln : (f.breaks.map Bk.v).length = f.breaks.length := List.length_map ..
 by_cases c4 : 40 <= f.breaks.length
 ·rw [if_pos c4]
  rw [if_pos (by omega)] at hf
  obtain ⟨j, hf⟩ := hf
  refine ⟨j, f, ?_⟩
  (try unfold rd7 at *); (try unfold rd2 at *); (try unfold givenD at *); rw [decl_reader_line.eq]
  simp only [hw0, hw1, hw2, hw3, hf, lz, lx, if_true, if_false, lb, Int.cast_ofNat_Int]
 rw [if_neg c4]
 rw [if_neg (by omega)] at hf
 simp only at hf
 have hF : decide ((((f.breaks.map Bk.v).length : Nat) : Int) >= 40) = false := decide_eq_false (by omega)
 have hM : ∀ (x : List V) (a b : Option Res), (if (f.breaks.map Bk.v).length + List.length [x] <= most then a else b) = a := fun x a b => if_pos (by show _ + 1 <= 1099511627776; omega)
 have w1 := wr1 (show k < 1099511627776 by omega)
 have s0 : k + 1 < l.length := hl.next hk (by rw [(isW_kind c).1]; decide)
 have h1 := stop_d hl hn hE s0
 unfold RdD at h1
 simp only [andR]
 cases c_1 : stopR l (k + 1) with
 | error e => rw [c_1] at h1; obtain ⟨j, h1⟩ := h1; refine ⟨j, f, ?_⟩; (try unfold rd7 at *); (try unfold rd2 at *); (try unfold givenD at *); rw [decl_reader_line.eq]; simp only [hw0, hw1, hw2, hw3, hf, w1, hF, hM, h1, lz, lx, if_true, if_false, lb, Int.cast_ofNat_Int]
 | ok r1 =>
 obtain ⟨x1, k1⟩ := r1
 rw [c_1] at h1
 simp only at h1
 have s1 := (stopR_step hl hn s0 c_1).end_
 have hs := sign_d hl hn s1 [59]
 unfold RdD at hs
 simp only [andR]
 have ap := app_one (l := l) hl hn Bk.v f.breaks x1
 have vv := Bk_list x1
 cases c_s : signR l [59] k1 with
 | error e => rw [c_s] at hs; obtain ⟨j, hs⟩ := hs; refine ⟨j, { f with breaks := f.breaks ++ [x1] }, ?_⟩; (try unfold rd7 at *); (try unfold rd2 at *); (try unfold givenD at *); rw [decl_reader_line.eq]; simp only [hw0, hw1, hw2, hw3, hf, w1, hF, hM, h1, hs, vv, ap, lz, lx, if_true, if_false, lb, Int.cast_ofNat_Int]
 | ok rs =>
 obtain ⟨xs, ks⟩ := rs
 rw [c_s] at hs
 simp only at hs
 unfold RdL
 simp only [andR]
 (try unfold rd7 at *); (try unfold rd2 at *); (try unfold givenD at *); rw [decl_reader_line.eq]
 simp only [hw0, hw1, hw2, hw3, hf, w1, hF, hM, h1, hs, vv, ap, lz, lx, if_true, if_false, lb, Int.cast_ofNat_Int]
theorem line_watch_d (hE : ReadsE syntax_ReadExpr.id l) {k : Nat} (hk : k < l.length) (f : Fl) (n0 : isW (tk l k) [112, 97, 105, 114] = false) (n1 : isW (tk l k) [115, 97, 109, 101] = false) (n2 : isW (tk l k) [107, 101, 101, 112] = false) (n3 : isW (tk l k) [98, 114, 101, 97, 107] = false) (c : isW (tk l k) [119, 97, 116, 99, 104] = true) : RdL l (lineR l f k) (den Sp decl_reader_line.id [.ref 0 0] [rd7 l k f] none) := by
 have hw0 := word_d hl hn hk [112, 97, 105, 114]
 rw [n0] at hw0
 have hw1 := word_d hl hn hk [115, 97, 109, 101]
 rw [n1] at hw1
 have hw2 := word_d hl hn hk [107, 101, 101, 112]
 rw [n2] at hw2
 have hw3 := word_d hl hn hk [98, 114, 101, 97, 107]
 rw [n3] at hw3
 have hw4 := word_d hl hn hk [119, 97, 116, 99, 104]
 rw [c] at hw4
 unfold lineR itemR
 rw [n0, if_neg (fun h => Bool.noConfusion h)]
 rw [n1, if_neg (fun h => Bool.noConfusion h)]
 rw [n2, if_neg (fun h => Bool.noConfusion h)]
 rw [n3, if_neg (fun h => Bool.noConfusion h)]
 rw [c, if_pos rfl]
 unfold fullR
 have hf : RdD l (fun _ : Unit => .tup []) (if 40 <= (f.watches.map Wt.v).length then .error ((tk l k).at_, 2) else .ok ((), k)) (den Sp decl_reader_full.id [.ref 0 0, .int .i64 k, .int .i64 (((f.watches.map Wt.v).length : Nat) : Int), .int .i64 40] [rd2 l k] none) := full_d hl hn (k := k) k hk (f.watches.map Wt.v).length 40
 unfold RdD at hf
 have ln : (f.watches.map Wt.v).length = f.watches.length := List.length_map ..
 by_cases c4 : 40 <= f.watches.length
 ·rw [if_pos c4]
  rw [if_pos (by omega)] at hf
  obtain ⟨j, hf⟩ := hf
  refine ⟨j, f, ?_⟩
  (try unfold rd7 at *); (try unfold rd2 at *); (try unfold givenD at *); rw [decl_reader_line.eq]
  simp only [hw0, hw1, hw2, hw3, hw4, hf, lz, lx, if_true, if_false, lb, Int.cast_ofNat_Int]
 rw [if_neg c4]
 rw [if_neg (by omega)] at hf
 simp only at hf
 have hF : decide ((((f.watches.map Wt.v).length : Nat) : Int) >= 40) = false := decide_eq_false (by omega)
 have hM : ∀ (x : List V) (a b : Option Res), (if (f.watches.map Wt.v).length + List.length [x] <= most then a else b) = a := fun x a b => if_pos (by show _ + 1 <= 1099511627776; omega)
 have w1 := wr1 (show k < 1099511627776 by omega)
 have s0 : k + 1 < l.length := hl.next hk (by rw [(isW_kind c).1]; decide)
 have h1 := side_d hl hn s0
 unfold RdD at h1
 simp only [keepR, andR]
 cases c_1 : sideR l (k + 1) with
 | error e => rw [c_1] at h1; obtain ⟨j, h1⟩ := h1; refine ⟨j, f, ?_⟩; (try unfold rd7 at *); (try unfold rd2 at *); (try unfold givenD at *); rw [decl_reader_line.eq]; simp only [hw0, hw1, hw2, hw3, hw4, hf, w1, hF, hM, h1, lz, lx, if_true, if_false, lb, Int.cast_ofNat_Int]
 | ok r1 =>
 obtain ⟨x1, k1⟩ := r1
 rw [c_1] at h1
 simp only at h1
 have s1 := (sideR_step hl s0 c_1).1.end_
 have h2 := name_d hl hn s1
 unfold RdD at h2
 simp only [andR]
 cases c_2 : nameR l k1 with
 | error e => rw [c_2] at h2; obtain ⟨j, h2⟩ := h2; refine ⟨j, f, ?_⟩; (try unfold rd7 at *); (try unfold rd2 at *); (try unfold givenD at *); rw [decl_reader_line.eq]; simp only [hw0, hw1, hw2, hw3, hw4, hf, w1, hF, hM, h1, h2, lz, lx, if_true, if_false, lb, Int.cast_ofNat_Int]
 | ok r2 =>
 obtain ⟨x2, k2⟩ := r2
 rw [c_2] at h2
 simp only at h2
 have s2 := (nameR_step hl s1 c_2).1.end_
 have h3 := name_d hl hn s2
 unfold RdD at h3
 simp only [andR]
 cases c_3 : nameR l k2 with
 | error e => rw [c_3] at h3; obtain ⟨j, h3⟩ := h3; refine ⟨j, f, ?_⟩; (try unfold rd7 at *); (try unfold rd2 at *); (try unfold givenD at *); rw [decl_reader_line.eq]; simp only [hw0, hw1, hw2, hw3, hw4, hf, w1, hF, hM, h1, h2, h3, lz, lx, if_true, if_false, lb, Int.cast_ofNat_Int]
 | ok r3 =>
 obtain ⟨x3, k3⟩ := r3
 rw [c_3] at h3
 simp only at h3
 have s3 := (nameR_step hl s2 c_3).1.end_
 have hs := sign_d hl hn s3 [59]
 unfold RdD at hs
 simp only [andR]
 have ap := app_one (l := l) hl hn Wt.v f.watches ⟨x1, x2, x3⟩
 rw [Wt.v_mk] at ap
 cases c_s : signR l [59] k3 with
 | error e => rw [c_s] at hs; obtain ⟨j, hs⟩ := hs; refine ⟨j, { f with watches := f.watches ++ [⟨x1, x2, x3⟩] }, ?_⟩; (try unfold rd7 at *); (try unfold rd2 at *); (try unfold givenD at *); rw [decl_reader_line.eq]; simp only [hw0, hw1, hw2, hw3, hw4, hf, w1, hF, hM, h1, h2, h3, hs, ap, lz, lx, if_true, if_false, lb, Int.cast_ofNat_Int]
 | ok rs =>
 obtain ⟨xs, ks⟩ := rs
 rw [c_s] at hs
 simp only at hs
 unfold RdL
 simp only [andR]
 (try unfold rd7 at *); (try unfold rd2 at *); (try unfold givenD at *); rw [decl_reader_line.eq]
 simp only [hw0, hw1, hw2, hw3, hw4, hf, w1, hF, hM, h1, h2, h3, hs, ap, lz, lx, if_true, if_false, lb, Int.cast_ofNat_Int]
theorem line_d (hE : ReadsE syntax_ReadExpr.id l) {k : Nat} (hk : k < l.length) (f : Fl) : RdL l (lineR l f k) (den Sp decl_reader_line.id [.ref 0 0] [rd7 l k f] none) := by
 cases n0 : isW (tk l k) [112, 97, 105, 114] with
 | true => exact line_pair_d hl hn hE hk f  n0
 | false =>
 cases n1 : isW (tk l k) [115, 97, 109, 101] with
 | true => exact line_same_d hl hn hE hk f n0 n1
 | false =>
 cases n2 : isW (tk l k) [107, 101, 101, 112] with
 | true => exact line_keep_d hl hn hE hk f n0 n1 n2
 | false =>
 cases n3 : isW (tk l k) [98, 114, 101, 97, 107] with
 | true => exact line_break_d hl hn hE hk f n0 n1 n2 n3
 | false =>
 cases n4 : isW (tk l k) [119, 97, 116, 99, 104] with
 | true => exact line_watch_d hl hn hE hk f n0 n1 n2 n3 n4
 | false =>
 have hw0 := word_d hl hn hk [112, 97, 105, 114]
 rw [n0] at hw0
 have hw1 := word_d hl hn hk [115, 97, 109, 101]
 rw [n1] at hw1
 have hw2 := word_d hl hn hk [107, 101, 101, 112]
 rw [n2] at hw2
 have hw3 := word_d hl hn hk [98, 114, 101, 97, 107]
 rw [n3] at hw3
 have hw4 := word_d hl hn hk [119, 97, 116, 99, 104]
 rw [n4] at hw4
 have hf := fail_d hl hn hk 30
 unfold lineR itemR
 rw [n0, n1, n2, n3, n4]
 refine ⟨k, f, ?_⟩
 (try unfold rd7 at *); (try unfold rd2 at *); (try unfold givenD at *); rw [decl_reader_line.eq]
 simp only [hw0, hw1, hw2, hw3, hw4, hf, lz, lx, if_true, if_false, lb]
end
end Go.Proofs.YtmhnmelaodhemaaDoor
namespace Go.Proofs.YtmhnmelaodhemaaDoor
open Go Go.Proofs.Ab Go.Proofs.Px
attribute [local congr] bind_h asInt_h asBool_h asStr_h asSl_h asSlR_h asAgg_h asTup_h asIface_h asCells_h onRet_h onOut_h cond_h
def tkB (l : List Tk) (k : Nat) : Blk := .cells T_syntax_tokens [.sl .no T_api_Token (l.map Tk.v), .int .i64 k] false
def rsB (l : List Tk) (k : Nat) (ps : List (List V)) : Blk := .cells T_syntax_reader [.sl .no T_api_Token (l.map Tk.v), .int .i64 k, .sl .no T_L_int ps] false
def givenS (e : Int × Int) : V := .iface T_syntax_given (.agg [.int .i64 e.1, .int .i64 e.2])
def RsT {α : Type} (l : List Tk) (v : α -> V) (r : Rf α) (o : Option Res) : Prop := match r with
 | .ok (x, j) => o = some ⟨.ret (v x), [tkB l j], none⟩
 | .error e => ∃ j : Nat, o = some ⟨.pan (givenS e), [tkB l j], none⟩
def RsX (l : List Tk) (ps : List (List V)) (r : Rd) (o : Option Res) : Prop := match r with
 | .ok (x, j) => o = some ⟨.ret (.agg x.v), [rsB l j ps], none⟩
 | .error e => ∃ j : Nat, o = some ⟨.pan (givenS e), [rsB l j ps], none⟩
section
variable {l : List Tk} (hn : l.length <= 100000)
include hn
theorem wrong_s {k : Nat} (hk : k < l.length) : den Sp syntax_tokens_wrong.id [.ref 0 0] [tkB l k] none = some ⟨.pan (givenS ((tk l k).at_, 30)), [tkB l k], none⟩ := by
 have r := row_in hk
 unfold tkB givenS
 rw [syntax_tokens_wrong.eq]
 simp only [if_pos r, Int.toNat_natCast, tok_g hk, tkv_0, tkv_1, tkv_2, tkv_3, lz, lx, if_true, if_false]
theorem is_s {k : Nat} (hk : k < l.length) (s : List UInt8) : den Sp syntax_tokens_is.id [.ref 0 0, .str (B s)] [tkB l k] none = some ⟨.ret (.bool (isT (tk l k) s)), [tkB l k], none⟩ := by
 have r := row_in hk
 unfold tkB isT
 rw [syntax_tokens_is.eq]
 simp only [if_pos r, Int.toNat_natCast, tok_g hk, tkv_0, tkv_1, tkv_2, tkv_3, lz, lx, if_true, if_false]
 by_cases c1 : (tk l k).text = s <;> by_cases c2 : (tk l k).kind = 3 <;> by_cases c3 : (tk l k).kind = 4 <;> simp [c1, c2, c3]
theorem has_s {k : Nat} (hk : k < l.length) (s : List UInt8) : den Sp syntax_tokens_has.id [.ref 0 0, .str (B s)] [tkB l k] none = some ⟨.ret (.bool (isT (tk l k) s)), [if isT (tk l k) s = true then tkB l (k + 1) else tkB l k], none⟩ := by
 have h := is_s hn hk s
 have w := wr1 (show k < 1099511627776 by omega)
 unfold tkB at *
 rw [syntax_tokens_has.eq]
 cases c : isT (tk l k) s <;> rw [c] at h <;> simp only [h, w, lz, lx, if_true, if_false]
theorem need_s {k : Nat} (hk : k < l.length) (s : List UInt8) : RsT l (fun _ : Unit => .tup []) (if isT (tk l k) s then .ok ((), k + 1) else .error ((tk l k).at_, 30)) (den Sp syntax_tokens_need.id [.ref 0 0, .str (B s)] [tkB l k] none) := by
 have h := has_s hn hk s
 have h2 := wrong_s hn hk
 unfold RsT
 cases c : isT (tk l k) s with
 | true =>
  rw [c] at h
  simp only [if_true] at h ⊢
  unfold tkB at *
  rw [syntax_tokens_need.eq]
  simp only [h, lz, lx, if_true, if_false]
 | false =>
  rw [c] at h
  simp only [Bool.false_eq_true, if_false] at h ⊢
  refine ⟨k, ?_⟩
  unfold tkB givenS at *
  rw [syntax_tokens_need.eq]
  simp only [h, h2, lz, lx, if_true, if_false]
theorem name_s {k : Nat} (hk : k < l.length) : RsT l (fun s => .str (B s)) (nameR l k) (den Sp syntax_tokens_name.id [.ref 0 0] [tkB l k] none) := by
 have h2 := wrong_s hn hk
 have r := row_in hk
 have w := wr1 (show k < 1099511627776 by omega)
 unfold RsT nameR wrongR
 by_cases c : (tk l k).kind = 1
 ·have c' : ((tk l k).kind != 1) = false := by simpa using c
  rw [if_pos c]
  simp only
  unfold tkB givenS at *
  rw [syntax_tokens_name.eq]
  simp only [if_pos r, Int.toNat_natCast, tok_g hk, tkv_0, tkv_1, tkv_2, tkv_3, c', w, lz, lx, if_true, if_false]
 ·have c' : ((tk l k).kind != 1) = true := by simpa using c
  rw [if_neg c]
  refine ⟨k, ?_⟩
  unfold tkB givenS at *
  rw [syntax_tokens_name.eq]
  simp only [if_pos r, Int.toNat_natCast, tok_g hk, tkv_0, tkv_1, tkv_2, tkv_3, c', h2, w, lz, lx, if_true, if_false]
theorem deep_s {k : Nat} (hk : k < l.length) (d : Int) (b : Bool) : RsT l (fun _ : Unit => .tup []) (if b = false then .error ((tk l k).at_, 30) else if 60 < d then .error ((tk l k).at_, 31) else .ok ((), k)) (den Sp syntax_tokens_deep.id [.ref 0 0, .int .i64 d, .bool b] [tkB l k] none) := by
 have h2 := wrong_s hn hk
 have r := row_in hk
 unfold RsT
 cases b with
 | false =>
  rw [if_pos rfl]
  refine ⟨k, ?_⟩
  unfold tkB givenS at *
  rw [syntax_tokens_deep.eq]
  simp only [if_pos r, Int.toNat_natCast, tok_g hk, tkv_0, tkv_1, tkv_2, tkv_3, h2, lz, lx, if_true, if_false]
 | true =>
  rw [if_neg (by simp)]
  by_cases c : 60 < d
  ·rw [if_pos c]
   refine ⟨k, ?_⟩
   have c' : decide (d > 60) = true := decide_eq_true c
   unfold tkB givenS at *
   rw [syntax_tokens_deep.eq]
   simp only [if_pos r, Int.toNat_natCast, tok_g hk, tkv_0, tkv_1, tkv_2, tkv_3, c', lz, lx, if_true, if_false]
  ·rw [if_neg c]
   have c' : decide (d > 60) = false := decide_eq_false c
   unfold tkB givenS at *
   rw [syntax_tokens_deep.eq]
   simp only [if_pos r, Int.toNat_natCast, tok_g hk, tkv_0, tkv_1, tkv_2, tkv_3, c', lz, lx, if_true, if_false]
theorem begins_s {k : Nat} (hk : k < l.length) (ps : List (List V)) : den Sp syntax_reader_begins.id [.ref 0 0] [rsB l k ps] none = some ⟨.ret (.bool (opensT (tk l k))), [rsB l k ps], none⟩ := by
 have h3 := fun s => is_s hn hk s
 have r := row_in hk
 have g : opensT (tk l k) = (decide ((tk l k).kind = 1) || (decide ((tk l k).kind = 2) || (isT (tk l k) [116, 114, 117, 101] || (isT (tk l k) [102, 97, 108, 115, 101] || (isT (tk l k) [40] || (isT (tk l k) [45] || isT (tk l k) [33])))))) := by
  unfold opensT
  simp [Bool.or_assoc]
 rw [g]
 have e1 : ((tk l k).kind == 1) = decide ((tk l k).kind = 1) := by by_cases c : (tk l k).kind = 1 <;> simp [c]
 have e2 : ((tk l k).kind == 2) = decide ((tk l k).kind = 2) := by by_cases c : (tk l k).kind = 2 <;> simp [c]
 unfold rsB tkB at *
 rw [syntax_reader_begins.eq]
 simp only [if_pos r, Int.toNat_natCast, tok_g hk, tkv_0, tkv_1, tkv_2, tkv_3, e1, e2, lz, lx, if_true, if_false]
 generalize decide ((tk l k).kind = 1) = b1
 cases b1 with
 | true => rfl
 | false =>
 generalize decide ((tk l k).kind = 2) = b2
 cases b2 with
 | true => rfl
 | false =>
 simp only [h3, lz, lx, if_true, if_false]
 cases isT (tk l k) [116, 114, 117, 101] with
 | true => rfl
 | false =>
 simp only [h3, lz, lx, if_true, if_false]
 cases isT (tk l k) [102, 97, 108, 115, 101] with
 | true => rfl
 | false =>
 simp only [h3, lz, lx, if_true, if_false]
 cases isT (tk l k) [40] with
 | true => rfl
 | false =>
 simp only [h3, lz, lx, if_true, if_false]
 cases isT (tk l k) [45] with
 | true => rfl
 | false =>
 simp only [h3, lz, lx, if_true, if_false]
 cases isT (tk l k) [33] <;> rfl
theorem level_s (s : List UInt8) : den Sp syntax_level.id [.str (B s)] [] none = some ⟨.ret (.int .i64 (levelT s)), [], none⟩ := by
 rw [syntax_level.eq]
 unfold levelT
 by_cases h1 : s = [124, 124]
 ·subst h1; rfl
 by_cases h2 : s = [38, 38]
 ·subst h2; rfl
 by_cases h3 : s = [61, 61]
 ·subst h3; rfl
 by_cases h4 : s = [33, 61]
 ·subst h4; rfl
 by_cases h5 : s = [60]
 ·subst h5; rfl
 by_cases h6 : s = [60, 61]
 ·subst h6; rfl
 by_cases h7 : s = [43]
 ·subst h7; rfl
 by_cases h8 : s = [45]
 ·subst h8; rfl
 by_cases h9 : s = [42]
 ·subst h9; rfl
 by_cases h10 : s = [47]
 ·subst h10; rfl
 by_cases h11 : s = [37]
 ·subst h11; rfl
 simp [h1, h2, h3, h4, h5, h6, h7, h8, h9, h10, h11]
theorem sign_s {k : Nat} (hk : k < l.length) (ps : List (List V)) (n : Int) (hn1 : 1 <= n) : den Sp syntax_reader_sign.id [.ref 0 0, .int .i64 n] [rsB l k ps] none = some ⟨.ret (.str (B (if signT (tk l k) = n then (tk l k).text else []))), [rsB l k ps], none⟩ := by
 have r := row_in hk
 have hv := level_s hn (tk l k).text
 unfold rsB signT
 rw [syntax_reader_sign.eq]
 by_cases c : (tk l k).kind = 4
 ·have c' : ((tk l k).kind != 4) = false := by simpa using c
  rw [if_pos c]
  by_cases c2 : levelT (tk l k).text = n
  ·have c2' : (levelT (tk l k).text != n) = false := by simpa using c2
   rw [if_pos c2]
   simp only [if_pos r, Int.toNat_natCast, tok_g hk, tkv_0, tkv_1, tkv_2, tkv_3, c', c2', hv, lz, lx, if_true, if_false]
  ·have c2' : (levelT (tk l k).text != n) = true := by simpa using c2
   rw [if_neg c2]
   simp only [if_pos r, Int.toNat_natCast, tok_g hk, tkv_0, tkv_1, tkv_2, tkv_3, c', c2', hv, lz, lx, if_true, if_false]
 ·have c' : ((tk l k).kind != 4) = true := by simpa using c
  rw [if_neg c, if_neg (show ¬ (0 : Int) = n by omega)]
  simp only [if_pos r, Int.toNat_natCast, tok_g hk, tkv_0, tkv_1, tkv_2, tkv_3, c', lz, lx, if_true, if_false]
end
end Go.Proofs.YtmhnmelaodhemaaDoor
namespace Go.Proofs.YtmhnmelaodhemaaDoor
open Go Go.Proofs.Ab
namespace syntax_reader_expr
theorem eq (m0_0 : List (List V)) (m0_1 : Int) (m0_2 : List (List V)) (a1 : Int) : den Sp id [V.ref 0 0, V.int .i64 a1] [Blk.cells T_syntax_reader [V.sl .no T_api_Token m0_0, V.int .i64 m0_1, V.sl .no T_L_int m0_2] false] none =
  (den Sp syntax_reader_begins.id [V.ref 0 0] [Blk.cells T_syntax_reader [V.sl .no T_api_Token m0_0, V.int .i64 m0_1, V.sl .no T_L_int m0_2] false] none).bind (fun r6 => Blk.asCells (List.getD (Res.bl r6) 0 (Blk.cells T_n0 [] true)) T_syntax_reader 3 (fun rd7 => V.asSl (rd7 0) T_api_Token (fun es8 => V.asInt (rd7 1) .i64 (fun n9 => V.asSl (rd7 2) T_L_int (fun es10 => Res.onRet r6 (fun v11 => V.asBool v11 (fun b12 => (den Sp syntax_tokens_deep.id [V.ref 0 0, V.int .i64 a1, V.bool b12] [Blk.cells T_syntax_tokens [V.sl .no T_api_Token es8, V.int .i64 n9] false] none).bind (fun r13 => Blk.asCells (List.getD (Res.bl r13) 0 (Blk.cells T_n0 [] true)) T_syntax_tokens 2 (fun rd14 => V.asSl (rd14 0) T_api_Token (fun es15 => V.asInt (rd14 1) .i64 (fun n16 => Res.onOut r13 (fun v17 => V.asTup v17 0 (fun rd18 => (den Sp syntax_reader_bin.id [V.ref 0 0, V.int .i64 (1 : Int), V.int .i64 a1] [Blk.cells T_syntax_reader [V.sl .no T_api_Token es15, V.int .i64 n16, V.sl .no T_L_int es10] false] none).bind (fun r20 => Blk.asCells (List.getD (Res.bl r20) 0 (Blk.cells T_n0 [] true)) T_syntax_reader 3 (fun rd21 => V.asSl (rd21 0) T_api_Token (fun es22 => V.asInt (rd21 1) .i64 (fun n23 => V.asSl (rd21 2) T_L_int (fun es24 => Res.onOut r20 (fun v25 => V.asAgg v25 4 (fun rd26 => V.asInt (rd26 0) .i64 (fun n27 => V.asStr (rd26 1) (fun s28 => V.asInt (rd26 2) .i64 (fun n29 => V.asSl (rd26 3) T_api_Expr (fun es30 => some ⟨Out.ret (V.agg [V.int .i64 n27, V.str s28, V.int .i64 n29, V.sl .no T_api_Expr es30]), [Blk.cells T_syntax_reader [V.sl .no T_api_Token es22, V.int .i64 n23, V.sl .no T_L_int es24] false], none⟩)))))) (fun v25 => V.asIface v25 T_syntax_given (fun w26 => V.asAgg w26 2 (fun rd27 => V.asInt (rd27 0) .i64 (fun n28 => V.asInt (rd27 1) .i64 (fun n29 => some ⟨Out.pan (V.iface T_syntax_given (V.agg [V.int .i64 n28, V.int .i64 n29])), [Blk.cells T_syntax_reader [V.sl .no T_api_Token es22, V.int .i64 n23, V.sl .no T_L_int es24] false], none⟩)))))))))))) (fun v17 => V.asIface v17 T_syntax_given (fun w18 => V.asAgg w18 2 (fun rd19 => V.asInt (rd19 0) .i64 (fun n20 => V.asInt (rd19 1) .i64 (fun n21 => some ⟨Out.pan (V.iface T_syntax_given (V.agg [V.int .i64 n20, V.int .i64 n21])), [Blk.cells T_syntax_reader [V.sl .no T_api_Token es15, V.int .i64 n16, V.sl .no T_L_int es10] false], none⟩)))))))))))))))) := (den_eq ..).trans (by kernel_rfl)
end syntax_reader_expr
namespace syntax_reader_bin
noncomputable abbrev e (p : List Nat) := ev Sp (den Sp) id Tryd.f72.ntmps (cAt (bodyOf Tryd.f72) p)
noncomputable abbrev cn (n0 : List Nat) := canon Sp id n0
noncomputable abbrev K : K := kFin Sp (den Sp) Tryd.f72 1
noncomputable def L1_1_1_0_1_0 (i0 i1 : Int) (s2 : ByteArray) (l3 : List (List V)) (i4 : Int) (l5 : List (List V)) (i6 : Int) (s7 : ByteArray) (i8 : Int) (l9 : List (List V)) : Option Res := LP (e [1, 1, 1, 0, 1, 0, 0]) (cn [0, 1006, 1007]) (kBlk 0 (kSeq (e [1, 1, 1, 1]) (K))) ([(0, (V.ref 0 0)), (1, (V.int .i64 i0)), (2, (V.int .i64 i1)), (6, (V.ref 1006 0)), (7, (V.ref 1007 0)), (8, (V.str s2))], ⟨[(0, (Blk.cells T_syntax_reader [V.sl .no T_api_Token l3, V.int .i64 i4, V.sl .no T_L_int l5] false)), (1006, (Blk.cells T_api_Expr [V.int .i64 (0 : Int), V.str (ByteArray.mk #[]), V.int .i64 (0 : Int), V.sl (Tok.row 0) T_api_Expr []] false)), (1007, (Blk.cells T_api_Expr [V.int .i64 i6, V.str s7, V.int .i64 i8, V.sl .no T_api_Expr l9] false))], [0], [], [], none⟩)
theorem L1_1_1_0_1_0_eq (i0 i1 : Int) (s2 : ByteArray) (l3 : List (List V)) (i4 : Int) (l5 : List (List V)) (i6 : Int) (s7 : ByteArray) (i8 : Int) (l9 : List (List V)) : L1_1_1_0_1_0 i0 i1 s2 l3 i4 l5 i6 s7 i8 l9 =
  (bif (!(decide (s2 = (ByteArray.mk #[])))) then (den Sp syntax_reader_bin.id [V.ref 0 0, V.int .i64 (IntKind.wrap .i64 (i0 + (1 : Int))), V.int .i64 i1] [Blk.cells T_syntax_reader [V.sl .no T_api_Token l3, V.int .i64 (IntKind.wrap .i64 (i4 + (1 : Int))), V.sl .no T_L_int l5] false] none).bind (fun r40 => Blk.asCells (List.getD (Res.bl r40) 0 (Blk.cells T_n0 [] true)) T_syntax_reader 3 (fun rd41 => V.asSl (rd41 0) T_api_Token (fun es42 => V.asInt (rd41 1) .i64 (fun n43 => V.asSl (rd41 2) T_L_int (fun es44 => Res.onOut r40 (fun v45 => V.asAgg v45 4 (fun rd46 => V.asInt (rd46 0) .i64 (fun n47 => V.asStr (rd46 1) (fun s48 => V.asInt (rd46 2) .i64 (fun n49 => V.asSl (rd46 3) T_api_Expr (fun es50 => bif (i0 == (3 : Int)) then (some ⟨Out.ret (V.agg [V.int .i64 (6 : Int), V.str s2, V.int .i64 (0 : Int), V.sl .no T_api_Expr [[V.int .i64 i6, V.str s7, V.int .i64 i8, V.sl .no T_api_Expr l9], [V.int .i64 n47, V.str s48, V.int .i64 n49, V.sl .no T_api_Expr es50]]]), [Blk.cells T_syntax_reader [V.sl .no T_api_Token es42, V.int .i64 n43, V.sl .no T_L_int es44] false], none⟩) else (den Sp syntax_reader_sign.id [V.ref 0 0, V.int .i64 i0] [Blk.cells T_syntax_reader [V.sl .no T_api_Token es42, V.int .i64 n43, V.sl .no T_L_int es44] false] none).bind (fun r53 => Blk.asCells (List.getD (Res.bl r53) 0 (Blk.cells T_n0 [] true)) T_syntax_reader 3 (fun rd54 => V.asSl (rd54 0) T_api_Token (fun es55 => V.asInt (rd54 1) .i64 (fun n56 => V.asSl (rd54 2) T_L_int (fun es57 => Res.onRet r53 (fun v58 => V.asStr v58 (fun s59 => L1_1_1_0_1_0 i0 i1 s59 es55 n56 es57 (6 : Int) s2 (0 : Int) [[V.int .i64 i6, V.str s7, V.int .i64 i8, V.sl .no T_api_Expr l9], [V.int .i64 n47, V.str s48, V.int .i64 n49, V.sl .no T_api_Expr es50]]))))))))))))) (fun v45 => V.asIface v45 T_syntax_given (fun w46 => V.asAgg w46 2 (fun rd47 => V.asInt (rd47 0) .i64 (fun n48 => V.asInt (rd47 1) .i64 (fun n49 => some ⟨Out.pan (V.iface T_syntax_given (V.agg [V.int .i64 n48, V.int .i64 n49])), [Blk.cells T_syntax_reader [V.sl .no T_api_Token es42, V.int .i64 n43, V.sl .no T_L_int es44] false], none⟩)))))))))) else (some ⟨Out.ret (V.agg [V.int .i64 i6, V.str s7, V.int .i64 i8, V.sl .no T_api_Expr l9]), [Blk.cells T_syntax_reader [V.sl .no T_api_Token l3, V.int .i64 i4, V.sl .no T_L_int l5] false], none⟩)) := (LP_eq ..).trans (by kernel_rfl)
theorem eq (m0_0 : List (List V)) (m0_1 : Int) (m0_2 : List (List V)) (a1 a2 : Int) : den Sp id [V.ref 0 0, V.int .i64 a1, V.int .i64 a2] [Blk.cells T_syntax_reader [V.sl .no T_api_Token m0_0, V.int .i64 m0_1, V.sl .no T_L_int m0_2] false] none =
  (bif (decide (a1 > (5 : Int))) then (den Sp syntax_reader_unary.id [V.ref 0 0, V.int .i64 a2] [Blk.cells T_syntax_reader [V.sl .no T_api_Token m0_0, V.int .i64 m0_1, V.sl .no T_L_int m0_2] false] none).bind (fun r8 => Blk.asCells (List.getD (Res.bl r8) 0 (Blk.cells T_n0 [] true)) T_syntax_reader 3 (fun rd9 => V.asSl (rd9 0) T_api_Token (fun es10 => V.asInt (rd9 1) .i64 (fun n11 => V.asSl (rd9 2) T_L_int (fun es12 => Res.onOut r8 (fun v13 => V.asAgg v13 4 (fun rd14 => V.asInt (rd14 0) .i64 (fun n15 => V.asStr (rd14 1) (fun s16 => V.asInt (rd14 2) .i64 (fun n17 => V.asSl (rd14 3) T_api_Expr (fun es18 => some ⟨Out.ret (V.agg [V.int .i64 n15, V.str s16, V.int .i64 n17, V.sl .no T_api_Expr es18]), [Blk.cells T_syntax_reader [V.sl .no T_api_Token es10, V.int .i64 n11, V.sl .no T_L_int es12] false], none⟩)))))) (fun v13 => V.asIface v13 T_syntax_given (fun w14 => V.asAgg w14 2 (fun rd15 => V.asInt (rd15 0) .i64 (fun n16 => V.asInt (rd15 1) .i64 (fun n17 => some ⟨Out.pan (V.iface T_syntax_given (V.agg [V.int .i64 n16, V.int .i64 n17])), [Blk.cells T_syntax_reader [V.sl .no T_api_Token es10, V.int .i64 n11, V.sl .no T_L_int es12] false], none⟩)))))))))) else (den Sp syntax_reader_bin.id [V.ref 0 0, V.int .i64 (IntKind.wrap .i64 (a1 + (1 : Int))), V.int .i64 a2] [Blk.cells T_syntax_reader [V.sl .no T_api_Token m0_0, V.int .i64 m0_1, V.sl .no T_L_int m0_2] false] none).bind (fun r8 => Blk.asCells (List.getD (Res.bl r8) 0 (Blk.cells T_n0 [] true)) T_syntax_reader 3 (fun rd9 => V.asSl (rd9 0) T_api_Token (fun es10 => V.asInt (rd9 1) .i64 (fun n11 => V.asSl (rd9 2) T_L_int (fun es12 => Res.onOut r8 (fun v13 => V.asAgg v13 4 (fun rd14 => V.asInt (rd14 0) .i64 (fun n15 => V.asStr (rd14 1) (fun s16 => V.asInt (rd14 2) .i64 (fun n17 => V.asSl (rd14 3) T_api_Expr (fun es18 => (den Sp syntax_reader_sign.id [V.ref 0 0, V.int .i64 a1] [Blk.cells T_syntax_reader [V.sl .no T_api_Token es10, V.int .i64 n11, V.sl .no T_L_int es12] false] none).bind (fun r20 => Blk.asCells (List.getD (Res.bl r20) 0 (Blk.cells T_n0 [] true)) T_syntax_reader 3 (fun rd21 => V.asSl (rd21 0) T_api_Token (fun es22 => V.asInt (rd21 1) .i64 (fun n23 => V.asSl (rd21 2) T_L_int (fun es24 => Res.onRet r20 (fun v25 => V.asStr v25 (fun s26 => L1_1_1_0_1_0 a1 a2 s26 es22 n23 es24 n15 s16 n17 es18))))))))))))) (fun v13 => V.asIface v13 T_syntax_given (fun w14 => V.asAgg w14 2 (fun rd15 => V.asInt (rd15 0) .i64 (fun n16 => V.asInt (rd15 1) .i64 (fun n17 => some ⟨Out.pan (V.iface T_syntax_given (V.agg [V.int .i64 n16, V.int .i64 n17])), [Blk.cells T_syntax_reader [V.sl .no T_api_Token es10, V.int .i64 n11, V.sl .no T_L_int es12] false], none⟩))))))))))) := (den_eq ..).trans (by kernel_rfl)
end syntax_reader_bin
namespace syntax_reader_unary
noncomputable abbrev e (p : List Nat) := ev Sp (den Sp) id Tryd.f76.ntmps (cAt (bodyOf Tryd.f76) p)
noncomputable abbrev cn (n0 : List Nat) := canon Sp id n0
noncomputable abbrev K : K := kFin Sp (den Sp) Tryd.f76 1
noncomputable def L1_0_1_0 (i0 i1 : Int) (l2 : List (List V)) (i3 : Int) (l4 : List (List V)) : Option Res := LP (e [1, 0, 1, 0, 0]) (cn [0, 1004]) (kBlk 0 (kSeq (e [1, 1]) (K))) ([(0, (V.ref 0 0)), (1, (V.int .i64 i0)), (4, (V.ref 1004 0)), (11, (V.agg [V.str (ByteArray.mk #[45]), V.str (ByteArray.mk #[33])])), (12, (V.int .i64 i1))], ⟨[(0, (Blk.cells T_syntax_reader [V.sl .no T_api_Token l2, V.int .i64 i3, V.sl .no T_L_int l4] false)), (1004, (Blk.cells T_api_Expr [V.int .i64 (0 : Int), V.str (ByteArray.mk #[]), V.int .i64 (0 : Int), V.sl (Tok.row 0) T_api_Expr []] false))], [0], [], [], none⟩)
theorem L1_0_1_0_eq (i0 i1 : Int) (l2 : List (List V)) (i3 : Int) (l4 : List (List V)) : L1_0_1_0 i0 i1 l2 i3 l4 =
  (bif (decide (i1 < (2 : Int))) then (if (((0 : Int) <= i1) ∧ (i1 < ((2 : Nat) : Int))) then (V.asStr (List.getD [V.str (ByteArray.mk #[45]), V.str (ByteArray.mk #[33])] (((Int.toNat i1) * 1) + 0) V.undef) (fun s13 => (den Sp syntax_tokens_has.id [V.ref 0 0, V.str s13] [Blk.cells T_syntax_tokens [V.sl .no T_api_Token l2, V.int .i64 i3] false] none).bind (fun r15 => Blk.asCells (List.getD (Res.bl r15) 0 (Blk.cells T_n0 [] true)) T_syntax_tokens 2 (fun rd16 => V.asSl (rd16 0) T_api_Token (fun es17 => V.asInt (rd16 1) .i64 (fun n18 => Res.onRet r15 (fun v19 => V.asBool v19 (fun b20 => bif b20 then (den Sp syntax_reader_begins.id [V.ref 0 0] [Blk.cells T_syntax_reader [V.sl .no T_api_Token es17, V.int .i64 n18, V.sl .no T_L_int l4] false] none).bind (fun r22 => Blk.asCells (List.getD (Res.bl r22) 0 (Blk.cells T_n0 [] true)) T_syntax_reader 3 (fun rd23 => V.asSl (rd23 0) T_api_Token (fun es24 => V.asInt (rd23 1) .i64 (fun n25 => V.asSl (rd23 2) T_L_int (fun es26 => Res.onRet r22 (fun v27 => V.asBool v27 (fun b28 => (den Sp syntax_tokens_deep.id [V.ref 0 0, V.int .i64 (IntKind.wrap .i64 (i0 + (1 : Int))), V.bool b28] [Blk.cells T_syntax_tokens [V.sl .no T_api_Token es24, V.int .i64 n25] false] none).bind (fun r29 => Blk.asCells (List.getD (Res.bl r29) 0 (Blk.cells T_n0 [] true)) T_syntax_tokens 2 (fun rd30 => V.asSl (rd30 0) T_api_Token (fun es31 => V.asInt (rd30 1) .i64 (fun n32 => Res.onOut r29 (fun v33 => V.asTup v33 0 (fun rd34 => (den Sp syntax_reader_unary.id [V.ref 0 0, V.int .i64 (IntKind.wrap .i64 (i0 + (1 : Int)))] [Blk.cells T_syntax_reader [V.sl .no T_api_Token es31, V.int .i64 n32, V.sl .no T_L_int es26] false] none).bind (fun r36 => Blk.asCells (List.getD (Res.bl r36) 0 (Blk.cells T_n0 [] true)) T_syntax_reader 3 (fun rd37 => V.asSl (rd37 0) T_api_Token (fun es38 => V.asInt (rd37 1) .i64 (fun n39 => V.asSl (rd37 2) T_L_int (fun es40 => Res.onOut r36 (fun v41 => V.asAgg v41 4 (fun rd42 => V.asInt (rd42 0) .i64 (fun n43 => V.asStr (rd42 1) (fun s44 => V.asInt (rd42 2) .i64 (fun n45 => V.asSl (rd42 3) T_api_Expr (fun es46 => some ⟨Out.ret (V.agg [V.int .i64 (5 : Int), V.str s13, V.int .i64 (0 : Int), V.sl .no T_api_Expr [[V.int .i64 n43, V.str s44, V.int .i64 n45, V.sl .no T_api_Expr es46]]]), [Blk.cells T_syntax_reader [V.sl .no T_api_Token es38, V.int .i64 n39, V.sl .no T_L_int es40] false], none⟩)))))) (fun v41 => V.asIface v41 T_syntax_given (fun w42 => V.asAgg w42 2 (fun rd43 => V.asInt (rd43 0) .i64 (fun n44 => V.asInt (rd43 1) .i64 (fun n45 => some ⟨Out.pan (V.iface T_syntax_given (V.agg [V.int .i64 n44, V.int .i64 n45])), [Blk.cells T_syntax_reader [V.sl .no T_api_Token es38, V.int .i64 n39, V.sl .no T_L_int es40] false], none⟩)))))))))))) (fun v33 => V.asIface v33 T_syntax_given (fun w34 => V.asAgg w34 2 (fun rd35 => V.asInt (rd35 0) .i64 (fun n36 => V.asInt (rd35 1) .i64 (fun n37 => some ⟨Out.pan (V.iface T_syntax_given (V.agg [V.int .i64 n36, V.int .i64 n37])), [Blk.cells T_syntax_reader [V.sl .no T_api_Token es31, V.int .i64 n32, V.sl .no T_L_int es26] false], none⟩)))))))))))))))) else (L1_0_1_0 i0 (IntKind.wrap .i64 (i1 + (1 : Int))) es17 n18 l4))))))))) else none) else (if (((0 : Int) <= i3) ∧ (i3 < (l2.length : Int))) then (V.asInt (List.getD (List.getD l2 (Int.toNat i3) []) 0 V.undef) .i64 (fun n13 => V.asStr (List.getD (List.getD l2 (Int.toNat i3) []) 1 V.undef) (fun s14 => V.asInt (List.getD (List.getD l2 (Int.toNat i3) []) 2 V.undef) .i64 (fun n15 => V.asInt (List.getD (List.getD l2 (Int.toNat i3) []) 3 V.undef) .i64 (fun n16 => (den Sp syntax_tokens_has.id [V.ref 0 0, V.str (ByteArray.mk #[40])] [Blk.cells T_syntax_tokens [V.sl .no T_api_Token l2, V.int .i64 i3] false] none).bind (fun r18 => Blk.asCells (List.getD (Res.bl r18) 0 (Blk.cells T_n0 [] true)) T_syntax_tokens 2 (fun rd19 => V.asSl (rd19 0) T_api_Token (fun es20 => V.asInt (rd19 1) .i64 (fun n21 => Res.onRet r18 (fun v22 => V.asBool v22 (fun b23 => bif b23 then (den Sp syntax_reader_expr.id [V.ref 0 0, V.int .i64 (IntKind.wrap .i64 (i0 + (1 : Int)))] [Blk.cells T_syntax_reader [V.sl .no T_api_Token es20, V.int .i64 n21, V.sl .no T_L_int l4] false] none).bind (fun r25 => Blk.asCells (List.getD (Res.bl r25) 0 (Blk.cells T_n0 [] true)) T_syntax_reader 3 (fun rd26 => V.asSl (rd26 0) T_api_Token (fun es27 => V.asInt (rd26 1) .i64 (fun n28 => V.asSl (rd26 2) T_L_int (fun es29 => Res.onOut r25 (fun v30 => V.asAgg v30 4 (fun rd31 => V.asInt (rd31 0) .i64 (fun n32 => V.asStr (rd31 1) (fun s33 => V.asInt (rd31 2) .i64 (fun n34 => V.asSl (rd31 3) T_api_Expr (fun es35 => (den Sp syntax_tokens_need.id [V.ref 0 0, V.str (ByteArray.mk #[41])] [Blk.cells T_syntax_tokens [V.sl .no T_api_Token es27, V.int .i64 n28] false] none).bind (fun r37 => Blk.asCells (List.getD (Res.bl r37) 0 (Blk.cells T_n0 [] true)) T_syntax_tokens 2 (fun rd38 => V.asSl (rd38 0) T_api_Token (fun es39 => V.asInt (rd38 1) .i64 (fun n40 => Res.onOut r37 (fun v41 => V.asTup v41 0 (fun rd42 => some ⟨Out.ret (V.agg [V.int .i64 n32, V.str s33, V.int .i64 n34, V.sl .no T_api_Expr es35]), [Blk.cells T_syntax_reader [V.sl .no T_api_Token es39, V.int .i64 n40, V.sl .no T_L_int es29] false], none⟩)) (fun v41 => V.asIface v41 T_syntax_given (fun w42 => V.asAgg w42 2 (fun rd43 => V.asInt (rd43 0) .i64 (fun n44 => V.asInt (rd43 1) .i64 (fun n45 => some ⟨Out.pan (V.iface T_syntax_given (V.agg [V.int .i64 n44, V.int .i64 n45])), [Blk.cells T_syntax_reader [V.sl .no T_api_Token es39, V.int .i64 n40, V.sl .no T_L_int es29] false], none⟩))))))))))))))) (fun v30 => V.asIface v30 T_syntax_given (fun w31 => V.asAgg w31 2 (fun rd32 => V.asInt (rd32 0) .i64 (fun n33 => V.asInt (rd32 1) .i64 (fun n34 => some ⟨Out.pan (V.iface T_syntax_given (V.agg [V.int .i64 n33, V.int .i64 n34])), [Blk.cells T_syntax_reader [V.sl .no T_api_Token es27, V.int .i64 n28, V.sl .no T_L_int es29] false], none⟩)))))))))) else (den Sp syntax_tokens_has.id [V.ref 0 0, V.str (ByteArray.mk #[116, 114, 117, 101])] [Blk.cells T_syntax_tokens [V.sl .no T_api_Token es20, V.int .i64 n21] false] none).bind (fun r25 => Blk.asCells (List.getD (Res.bl r25) 0 (Blk.cells T_n0 [] true)) T_syntax_tokens 2 (fun rd26 => V.asSl (rd26 0) T_api_Token (fun es27 => V.asInt (rd26 1) .i64 (fun n28 => Res.onRet r25 (fun v29 => V.asBool v29 (fun b30 => bif b30 then (some ⟨Out.ret (V.agg [V.int .i64 (2 : Int), V.str (ByteArray.mk #[]), V.int .i64 (1 : Int), V.sl .no T_api_Expr []]), [Blk.cells T_syntax_reader [V.sl .no T_api_Token es27, V.int .i64 n28, V.sl .no T_L_int l4] false], none⟩) else (den Sp syntax_tokens_has.id [V.ref 0 0, V.str (ByteArray.mk #[102, 97, 108, 115, 101])] [Blk.cells T_syntax_tokens [V.sl .no T_api_Token es27, V.int .i64 n28] false] none).bind (fun r32 => Blk.asCells (List.getD (Res.bl r32) 0 (Blk.cells T_n0 [] true)) T_syntax_tokens 2 (fun rd33 => V.asSl (rd33 0) T_api_Token (fun es34 => V.asInt (rd33 1) .i64 (fun n35 => Res.onRet r32 (fun v36 => V.asBool v36 (fun b37 => bif b37 then (some ⟨Out.ret (V.agg [V.int .i64 (2 : Int), V.str (ByteArray.mk #[]), V.int .i64 (0 : Int), V.sl .no T_api_Expr []]), [Blk.cells T_syntax_reader [V.sl .no T_api_Token es34, V.int .i64 n35, V.sl .no T_L_int l4] false], none⟩) else (bif (n13 == (2 : Int)) then (some ⟨Out.ret (V.agg [V.int .i64 (1 : Int), V.str (ByteArray.mk #[]), V.int .i64 n15, V.sl .no T_api_Expr []]), [Blk.cells T_syntax_reader [V.sl .no T_api_Token es34, V.int .i64 (IntKind.wrap .i64 (n35 + (1 : Int))), V.sl .no T_L_int l4] false], none⟩) else (den Sp syntax_tokens_name.id [V.ref 0 0] [Blk.cells T_syntax_tokens [V.sl .no T_api_Token es34, V.int .i64 n35] false] none).bind (fun r40 => Blk.asCells (List.getD (Res.bl r40) 0 (Blk.cells T_n0 [] true)) T_syntax_tokens 2 (fun rd41 => V.asSl (rd41 0) T_api_Token (fun es42 => V.asInt (rd41 1) .i64 (fun n43 => Res.onOut r40 (fun v44 => V.asStr v44 (fun s45 => (den Sp syntax_tokens_has.id [V.ref 0 0, V.str (ByteArray.mk #[91])] [Blk.cells T_syntax_tokens [V.sl .no T_api_Token es42, V.int .i64 n43] false] none).bind (fun r47 => Blk.asCells (List.getD (Res.bl r47) 0 (Blk.cells T_n0 [] true)) T_syntax_tokens 2 (fun rd48 => V.asSl (rd48 0) T_api_Token (fun es49 => V.asInt (rd48 1) .i64 (fun n50 => Res.onRet r47 (fun v51 => V.asBool v51 (fun b52 => bif b52 then (den Sp syntax_reader_expr.id [V.ref 0 0, V.int .i64 (IntKind.wrap .i64 (i0 + (1 : Int)))] [Blk.cells T_syntax_reader [V.sl .no T_api_Token es49, V.int .i64 n50, V.sl .no T_L_int l4] false] none).bind (fun r54 => Blk.asCells (List.getD (Res.bl r54) 0 (Blk.cells T_n0 [] true)) T_syntax_reader 3 (fun rd55 => V.asSl (rd55 0) T_api_Token (fun es56 => V.asInt (rd55 1) .i64 (fun n57 => V.asSl (rd55 2) T_L_int (fun es58 => Res.onOut r54 (fun v59 => V.asAgg v59 4 (fun rd60 => V.asInt (rd60 0) .i64 (fun n61 => V.asStr (rd60 1) (fun s62 => V.asInt (rd60 2) .i64 (fun n63 => V.asSl (rd60 3) T_api_Expr (fun es64 => (den Sp syntax_tokens_need.id [V.ref 0 0, V.str (ByteArray.mk #[93])] [Blk.cells T_syntax_tokens [V.sl .no T_api_Token es56, V.int .i64 n57] false] none).bind (fun r66 => Blk.asCells (List.getD (Res.bl r66) 0 (Blk.cells T_n0 [] true)) T_syntax_tokens 2 (fun rd67 => V.asSl (rd67 0) T_api_Token (fun es68 => V.asInt (rd67 1) .i64 (fun n69 => Res.onOut r66 (fun v70 => V.asTup v70 0 (fun rd71 => some ⟨Out.ret (V.agg [V.int .i64 (4 : Int), V.str s45, V.int .i64 (0 : Int), V.sl .no T_api_Expr [[V.int .i64 n61, V.str s62, V.int .i64 n63, V.sl .no T_api_Expr es64]]]), [Blk.cells T_syntax_reader [V.sl .no T_api_Token es68, V.int .i64 n69, V.sl .no T_L_int es58] false], none⟩)) (fun v70 => V.asIface v70 T_syntax_given (fun w71 => V.asAgg w71 2 (fun rd72 => V.asInt (rd72 0) .i64 (fun n73 => V.asInt (rd72 1) .i64 (fun n74 => some ⟨Out.pan (V.iface T_syntax_given (V.agg [V.int .i64 n73, V.int .i64 n74])), [Blk.cells T_syntax_reader [V.sl .no T_api_Token es68, V.int .i64 n69, V.sl .no T_L_int es58] false], none⟩))))))))))))))) (fun v59 => V.asIface v59 T_syntax_given (fun w60 => V.asAgg w60 2 (fun rd61 => V.asInt (rd61 0) .i64 (fun n62 => V.asInt (rd61 1) .i64 (fun n63 => some ⟨Out.pan (V.iface T_syntax_given (V.agg [V.int .i64 n62, V.int .i64 n63])), [Blk.cells T_syntax_reader [V.sl .no T_api_Token es56, V.int .i64 n57, V.sl .no T_L_int es58] false], none⟩)))))))))) else (some ⟨Out.ret (V.agg [V.int .i64 (3 : Int), V.str s45, V.int .i64 (0 : Int), V.sl .no T_api_Expr []]), [Blk.cells T_syntax_reader [V.sl .no T_api_Token es49, V.int .i64 n50, V.sl .no T_L_int l4] false], none⟩))))))))) (fun v44 => V.asIface v44 T_syntax_given (fun w45 => V.asAgg w45 2 (fun rd46 => V.asInt (rd46 0) .i64 (fun n47 => V.asInt (rd46 1) .i64 (fun n48 => some ⟨Out.pan (V.iface T_syntax_given (V.agg [V.int .i64 n47, V.int .i64 n48])), [Blk.cells T_syntax_reader [V.sl .no T_api_Token es42, V.int .i64 n43, V.sl .no T_L_int l4] false], none⟩))))))))))))))))))))))))))))))))) else none)) := (LP_eq ..).trans (by kernel_rfl)
theorem eq (m0_0 : List (List V)) (m0_1 : Int) (m0_2 : List (List V)) (a1 : Int) : den Sp id [V.ref 0 0, V.int .i64 a1] [Blk.cells T_syntax_reader [V.sl .no T_api_Token m0_0, V.int .i64 m0_1, V.sl .no T_L_int m0_2] false] none =
  (L1_0_1_0 a1 (0 : Int) m0_0 m0_1 m0_2) := (den_eq ..).trans (by kernel_rfl)
end syntax_reader_unary
namespace syntax_caught
theorem eq (a0_0 a0_1 : Int) : den Sp id [V.iface T_syntax_given (V.agg [V.int .i64 a0_0, V.int .i64 a0_1])] [] none =
  (some ⟨Out.ret (V.tup [V.int .i64 a0_0, V.int .i64 a0_1]), [], none⟩) := (den_eq ..).trans (by kernel_rfl)
end syntax_caught
namespace syntax_ReadExpr_1
theorem eq0 (c0_0 : Int) (c0_1 : ByteArray) (c0_2 : Int) (c0_3 : List (List V)) (c1_0 c2_0 c3_0 : Int) : den Sp id [V.ref 0 0, V.ref 1 0, V.ref 2 0, V.ref 3 0] [Blk.cells T_api_Expr [V.int .i64 c0_0, V.str c0_1, V.int .i64 c0_2, V.sl .no T_api_Expr c0_3] false, Blk.cells T_int [V.int .i64 c1_0] false, Blk.cells T_int [V.int .i64 c2_0] false, Blk.cells T_api_Errno [V.int .i64 c3_0] false] (some none) =
  (some ⟨Out.ret (V.tup []), [Blk.cells T_api_Expr [V.int .i64 c0_0, V.str c0_1, V.int .i64 c0_2, V.sl .no T_api_Expr c0_3] false, Blk.cells T_int [V.int .i64 c1_0] false, Blk.cells T_int [V.int .i64 c2_0] false, Blk.cells T_api_Errno [V.int .i64 c3_0] false], some none⟩) := (den_eq ..).trans (by kernel_rfl)
end syntax_ReadExpr_1
namespace syntax_ReadExpr_1
theorem eq1 (c0_0 : Int) (c0_1 : ByteArray) (c0_2 : Int) (c0_3 : List (List V)) (c1_0 c2_0 c3_0 w_0 w_1 : Int) : den Sp id [V.ref 0 0, V.ref 1 0, V.ref 2 0, V.ref 3 0] [Blk.cells T_api_Expr [V.int .i64 c0_0, V.str c0_1, V.int .i64 c0_2, V.sl .no T_api_Expr c0_3] false, Blk.cells T_int [V.int .i64 c1_0] false, Blk.cells T_int [V.int .i64 c2_0] false, Blk.cells T_api_Errno [V.int .i64 c3_0] false] (some (some (V.iface T_syntax_given (V.agg [V.int .i64 w_0, V.int .i64 w_1])))) =
  (den Sp syntax_caught.id [V.iface T_syntax_given (V.agg [V.int .i64 w_0, V.int .i64 w_1])] [] none).bind (fun r13 => Res.onRet r13 (fun v14 => V.asTup v14 2 (fun rd15 => V.asInt (rd15 0) .i64 (fun n16 => V.asInt (rd15 1) .i64 (fun n17 => some ⟨Out.ret (V.tup []), [Blk.cells T_api_Expr [V.int .i64 (0 : Int), V.str (ByteArray.mk #[]), V.int .i64 (0 : Int), V.sl .no T_api_Expr []] false, Blk.cells T_int [V.int .i64 (0 : Int)] false, Blk.cells T_int [V.int .i64 n16] false, Blk.cells T_api_Errno [V.int .i64 n17] false], some none⟩))))) := (den_eq ..).trans (by kernel_rfl)
end syntax_ReadExpr_1
namespace syntax_ReadExpr
noncomputable abbrev e (p : List Nat) := ev Sp (den Sp) id Tryd.f51.ntmps (cAt (bodyOf Tryd.f51) p)
noncomputable abbrev K : K := kFin Sp (den Sp) Tryd.f51 0
noncomputable def J1_0_1_0_0 (l0 : List (List V)) (i1 : Int) : Option Res := joinAt Sp (den Sp) id Tryd.f51.ntmps (cAt (bodyOf Tryd.f51) [1, 0, 1, 0, 0]) (kSeq (e [1, 0, 1, 0, 1]) (kSeq (e [1, 1]) (K))) ([(0, (V.sl .no T_api_Token l0)), (1, (V.int .i64 i1)), (4, (V.ref 1004 0)), (5, (V.ref 1005 0)), (6, (V.ref 1006 0)), (7, (V.ref 1007 0))], ⟨[(1004, (Blk.cells T_api_Expr [V.int .i64 (0 : Int), V.str (ByteArray.mk #[]), V.int .i64 (0 : Int), V.sl (Tok.row 0) T_api_Expr []] false)), (1005, (Blk.cells T_int [V.int .i64 (0 : Int)] false)), (1006, (Blk.cells T_int [V.int .i64 (0 : Int)] false)), (1007, (Blk.cells T_api_Errno [V.int .i64 (0 : Int)] false))], [0], [], [], none⟩)
noncomputable def J1_1_0 (l0 : List (List V)) (i1 : Int) : Option Res := joinAt Sp (den Sp) id Tryd.f51.ntmps (cAt (bodyOf Tryd.f51) [1, 1, 0]) (kSeq (e [1, 1, 1]) (K)) ([(0, (V.sl .no T_api_Token l0)), (1, (V.int .i64 i1)), (4, (V.ref 1004 0)), (5, (V.ref 1005 0)), (6, (V.ref 1006 0)), (7, (V.ref 1007 0))], ⟨[(1004, (Blk.cells T_api_Expr [V.int .i64 (0 : Int), V.str (ByteArray.mk #[]), V.int .i64 (0 : Int), V.sl (Tok.row 0) T_api_Expr []] false)), (1005, (Blk.cells T_int [V.int .i64 (0 : Int)] false)), (1006, (Blk.cells T_int [V.int .i64 (0 : Int)] false)), (1007, (Blk.cells T_api_Errno [V.int .i64 (0 : Int)] false))], [0], [], [], none⟩)
theorem J1_1_0_eq (l0 : List (List V)) (i1 : Int) : J1_1_0 l0 i1 =
  (den Sp syntax_reader_expr.id [V.ref 0 0, V.int .i64 (1 : Int)] [Blk.cells T_syntax_reader [V.sl .no T_api_Token l0, V.int .i64 i1, V.sl .no T_L_int []] false] none).bind (fun r12 => Blk.asCells (List.getD (Res.bl r12) 0 (Blk.cells T_n0 [] true)) T_syntax_reader 3 (fun rd13 => V.asSl (rd13 0) T_api_Token (fun es14 => V.asInt (rd13 1) .i64 (fun n15 => V.asSl (rd13 2) T_L_int (fun es16 => Res.onOut r12 (fun v17 => V.asAgg v17 4 (fun rd18 => V.asInt (rd18 0) .i64 (fun n19 => V.asStr (rd18 1) (fun s20 => V.asInt (rd18 2) .i64 (fun n21 => V.asSl (rd18 3) T_api_Expr (fun es22 => (den Sp syntax_ReadExpr_1.id [V.ref 0 0, V.ref 1 0, V.ref 2 0, V.ref 3 0] [Blk.cells T_api_Expr [V.int .i64 n19, V.str s20, V.int .i64 n21, V.sl .no T_api_Expr es22] false, Blk.cells T_int [V.int .i64 n15] false, Blk.cells T_int [V.int .i64 (0 : Int)] false, Blk.cells T_api_Errno [V.int .i64 (0 : Int)] false] (some none)).bind (fun r24 => Blk.asCells (List.getD (Res.bl r24) 0 (Blk.cells T_n0 [] true)) T_api_Expr 4 (fun rd25 => V.asInt (rd25 0) .i64 (fun n26 => V.asStr (rd25 1) (fun s27 => V.asInt (rd25 2) .i64 (fun n28 => V.asSl (rd25 3) T_api_Expr (fun es29 => Blk.asCells (List.getD (Res.bl r24) 1 (Blk.cells T_n0 [] true)) T_int 1 (fun rd30 => V.asInt (rd30 0) .i64 (fun n31 => Blk.asCells (List.getD (Res.bl r24) 2 (Blk.cells T_n0 [] true)) T_int 1 (fun rd32 => V.asInt (rd32 0) .i64 (fun n33 => Blk.asCells (List.getD (Res.bl r24) 3 (Blk.cells T_n0 [] true)) T_api_Errno 1 (fun rd34 => V.asInt (rd34 0) .i64 (fun n35 => Res.onRet r24 (fun v36 => V.asTup v36 0 (fun rd37 => Res.onPn r24 (some ⟨Out.ret (V.tup [V.agg [V.int .i64 n26, V.str s27, V.int .i64 n28, V.sl .no T_api_Expr es29], V.int .i64 n31, V.int .i64 n33, V.int .i64 n35]), [], none⟩) (fun v38 => some ⟨Out.ret (V.tup [V.agg [V.int .i64 n26, V.str s27, V.int .i64 n28, V.sl .no T_api_Expr es29], V.int .i64 n31, V.int .i64 n33, V.int .i64 n35]), [], none⟩))))))))))))))))))))) (fun v17 => V.asIface v17 T_syntax_given (fun w18 => V.asAgg w18 2 (fun rd19 => V.asInt (rd19 0) .i64 (fun n20 => V.asInt (rd19 1) .i64 (fun n21 => (den Sp syntax_ReadExpr_1.id [V.ref 0 0, V.ref 1 0, V.ref 2 0, V.ref 3 0] [Blk.cells T_api_Expr [V.int .i64 (0 : Int), V.str (ByteArray.mk #[]), V.int .i64 (0 : Int), V.sl .no T_api_Expr []] false, Blk.cells T_int [V.int .i64 (0 : Int)] false, Blk.cells T_int [V.int .i64 (0 : Int)] false, Blk.cells T_api_Errno [V.int .i64 (0 : Int)] false] (some (some (V.iface T_syntax_given (V.agg [V.int .i64 n20, V.int .i64 n21]))))).bind (fun r22 => Blk.asCells (List.getD (Res.bl r22) 0 (Blk.cells T_n0 [] true)) T_api_Expr 4 (fun rd23 => V.asInt (rd23 0) .i64 (fun n24 => V.asStr (rd23 1) (fun s25 => V.asInt (rd23 2) .i64 (fun n26 => V.asSl (rd23 3) T_api_Expr (fun es27 => Blk.asCells (List.getD (Res.bl r22) 1 (Blk.cells T_n0 [] true)) T_int 1 (fun rd28 => V.asInt (rd28 0) .i64 (fun n29 => Blk.asCells (List.getD (Res.bl r22) 2 (Blk.cells T_n0 [] true)) T_int 1 (fun rd30 => V.asInt (rd30 0) .i64 (fun n31 => Blk.asCells (List.getD (Res.bl r22) 3 (Blk.cells T_n0 [] true)) T_api_Errno 1 (fun rd32 => V.asInt (rd32 0) .i64 (fun n33 => Res.onRet r22 (fun v34 => V.asTup v34 0 (fun rd35 => Res.onPn r22 (some ⟨Out.ret (V.tup [V.agg [V.int .i64 n24, V.str s25, V.int .i64 n26, V.sl .no T_api_Expr es27], V.int .i64 n29, V.int .i64 n31, V.int .i64 n33]), [], none⟩) (fun v36 => some ⟨Out.pan (V.iface T_syntax_given (V.agg [V.int .i64 n20, V.int .i64 n21])), [], none⟩))))))))))))))))))))))))) := (joinAt_eq ..).trans (by kernel_rfl)
theorem eq (a0 : List (List V)) (a1 : Int) : den Sp id [V.sl .no T_api_Token a0, V.int .i64 a1] [] none =
  (den Sp lex_Right.id [V.sl .no T_api_Token a0] [] none).bind (fun r4 => Res.onRet r4 (fun v5 => V.asBool v5 (fun b6 => bif (!b6) then (J1_0_1_0_0 a0 a1) else (bif (decide (a1 < (0 : Int))) then (J1_0_1_0_0 a0 a1) else (bif (decide (a1 >= (a0.length : Int))) then (J1_0_1_0_0 a0 a1) else (J1_1_0 a0 a1)))))) := (den_eq ..).trans (by kernel_rfl)
end syntax_ReadExpr
end Go.Proofs.YtmhnmelaodhemaaDoor
namespace Go.Proofs.YtmhnmelaodhemaaDoor
open Go Go.Proofs.Ab Go.Proofs.Px
attribute [local congr] bind_h asInt_h asBool_h asStr_h asSl_h asSlR_h asAgg_h asTup_h asIface_h asCells_h onRet_h onOut_h cond_h
theorem sun_v (m : Int) (s : List UInt8) (x : Ex) : Ex.v (.mk m s 0 [x]) = [.int .i64 m, .str (B s), .int .i64 0, .sl .no T_api_Expr [x.v]] := by rw [Ex.v_mk]; rfl
theorem sbin_v (s : List UInt8) (x y : Ex) : Ex.v (.mk 6 s 0 [x, y]) = [.int .i64 6, .str (B s), .int .i64 0, .sl .no T_api_Expr [x.v, y.v]] := by rw [Ex.v_mk]; rfl
theorem sleaf_v (m : Int) (s : List UInt8) (n : Int) : Ex.v (.mk m s n []) = [.int .i64 m, .str (B s), .int .i64 n, .sl .no T_api_Expr []] := by rw [Ex.v_mk]; rfl
theorem level_ne {s : List UInt8} (h : levelT s ≠ 0) : s ≠ [] := fun e => h (by rw [e]; rfl)
theorem isT_of {t : Tk} {s : List UInt8} (h : isT t s = true) : (t.kind = 3 ∨ t.kind = 4) ∧ t.text = s := by
 unfold isT at h
 simpa only [Bool.and_eq_true, Bool.or_eq_true, decide_eq_true_eq] using h
section
variable {l : List Tk} (hl : Ended l) (hn : l.length <= 100000)
include hl hn
structure FarS (l : List Tk) (k : Nat) : Prop where
 un : ∀ k', k < k' -> k' < l.length -> ∀ (d : Int) ps, 0 <= d -> d <= 60 -> RsX l ps (oneW l d k') (den Sp syntax_reader_unary.id [.ref 0 0, .int .i64 d] [rsB l k' ps] none)
 bin : ∀ k', k < k' -> k' < l.length -> ∀ (n d : Int) ps, 1 <= n -> n <= 6 -> 0 <= d -> d <= 60 -> RsX l ps (tightW l n d k') (den Sp syntax_reader_bin.id [.ref 0 0, .int .i64 n, .int .i64 d] [rsB l k' ps] none)
theorem expr_s {k : Nat} (hk : k < l.length) (d : Int) (ps : List (List V)) (hT : d <= 60 -> RsX l ps (tightW l 1 d k) (den Sp syntax_reader_bin.id [.ref 0 0, .int .i64 1, .int .i64 d] [rsB l k ps] none)) :
  RsX l ps (partR l d k (tightW l 1 d k)) (den Sp syntax_reader_expr.id [.ref 0 0, .int .i64 d] [rsB l k ps] none) := by
 have h1 := begins_s hn hk ps
 have h2 := deep_s hn hk d (opensT (tk l k))
 unfold partR
 unfold RsT at h2
 cases c : opensT (tk l k) with
 | false =>
  rw [c] at h1 h2
  rw [if_pos rfl] at h2 ⊢
  obtain ⟨j, h2⟩ := h2
  refine ⟨j, ?_⟩
  (try unfold rsB at *); (try unfold tkB at *); (try unfold givenS at *)
  rw [syntax_reader_expr.eq]
  simp only [h1, h2, lz, lx, if_true, if_false]
 | true =>
  rw [c] at h1 h2
  rw [if_neg (by simp)] at h2 ⊢
  by_cases c6 : 60 < d
  ·rw [if_pos c6] at h2 ⊢
   obtain ⟨j, h2⟩ := h2
   refine ⟨j, ?_⟩
   (try unfold rsB at *); (try unfold tkB at *); (try unfold givenS at *)
   rw [syntax_reader_expr.eq]
   simp only [h1, h2, lz, lx, if_true, if_false]
  ·rw [if_neg c6] at h2 ⊢
   simp only at h2
   have hT := hT (by omega)
   unfold RsX at *
   cases hq : tightW l 1 d k with
   | error e =>
    rw [hq] at hT
    obtain ⟨j, hT⟩ := hT
    refine ⟨j, ?_⟩
    (try unfold rsB at *); (try unfold tkB at *); (try unfold givenS at *)
    rw [syntax_reader_expr.eq]
    simp only [h1, h2, hT, lz, lx, if_true, if_false]
   | ok q =>
    obtain ⟨x, j⟩ := q
    rw [hq] at hT
    simp only at hT ⊢
    (try unfold rsB at *); (try unfold tkB at *); (try unfold givenS at *)
    rw [syntax_reader_expr.eq]
    simp only [h1, h2, hT, lz, lx, if_true, if_false]
noncomputable def un1 (l : List Tk) (ps : List (List V)) (d : Int) (i : Int) (k : Nat) : Option Res := syntax_reader_unary.L1_0_1_0 d i (l.map Tk.v) (k : Int) ps
theorem un_at {k : Nat} (hk : k < l.length) (d : Int) (ps : List (List V)) (h0 : 0 <= d) (h6 : d <= 60) (far : FarS l k) (i : Nat) (s : List UInt8) (hi : i < 2) (hs : List.getD [V.str (B [45]), V.str (B [33])] ((Int.toNat (i : Int)) * 1 + 0) .undef = .str (B s)) :
  (isT (tk l k) s = true -> RsX l ps (partR l (d + 1) (k + 1) (match oneW l (d + 1) (k + 1) with | .error e => .error e | .ok (x, j) => .ok (.mk 5 s 0 [x], j))) (un1 l ps d i k)) ∧
  (isT (tk l k) s = false -> un1 l ps d i k = un1 l ps d (i + 1 : Nat) k) := by
 have hh := has_s hn hk s
 have c2 : decide ((i : Int) < 2) = true := decide_eq_true (by omega)
 have hd : IntKind.i64.wrap (d + 1) = d + 1 := wrap_in (by omega) (by omega)
 have wi := wr1 (show i < 1099511627776 by omega)
 have ri : (0 : Int) <= (i : Int) ∧ (i : Int) < ((2 : Nat) : Int) := ⟨by omega, by omega⟩
 refine ⟨fun c => ?_, fun c => ?_⟩
 ·rw [c] at hh
  simp only [if_true] at hh
  have hk1 := hl.isT hk c
  have h1 := begins_s hn hk1 ps
  have h2 := deep_s hn hk1 (d + 1) (opensT (tk l (k + 1)))
  unfold partR
  unfold RsT at h2
  cases co : opensT (tk l (k + 1)) with
  | false =>
   rw [co] at h1 h2
   rw [if_pos rfl] at h2 ⊢
   obtain ⟨j, h2⟩ := h2
   refine ⟨j, ?_⟩
   (try unfold un1 at *); (try unfold rsB at *); (try unfold tkB at *); (try unfold givenS at *)
   rw [syntax_reader_unary.L1_0_1_0_eq]
   simp only [hh, h1, h2, c2, hd, wi, if_pos ri, hs, lz, lx, if_true, if_false]
  | true =>
   rw [co] at h1 h2
   rw [if_neg (by simp)] at h2 ⊢
   by_cases c6 : 60 < d + 1
   ·rw [if_pos c6] at h2 ⊢
    obtain ⟨j, h2⟩ := h2
    refine ⟨j, ?_⟩
    (try unfold un1 at *); (try unfold rsB at *); (try unfold tkB at *); (try unfold givenS at *)
    rw [syntax_reader_unary.L1_0_1_0_eq]
    simp only [hh, h1, h2, c2, hd, wi, if_pos ri, hs, lz, lx, if_true, if_false]
   ·rw [if_neg c6] at h2 ⊢
    simp only at h2
    have ih := far.un (k + 1) (by omega) hk1 (d + 1) ps (by omega) (by omega)
    unfold RsX at *
    cases hq : oneW l (d + 1) (k + 1) with
    | error e =>
     rw [hq] at ih
     obtain ⟨j, ih⟩ := ih
     refine ⟨j, ?_⟩
     (try unfold un1 at *); (try unfold rsB at *); (try unfold tkB at *); (try unfold givenS at *)
     rw [syntax_reader_unary.L1_0_1_0_eq]
     simp only [hh, h1, h2, ih, c2, hd, wi, if_pos ri, hs, lz, lx, if_true, if_false]
    | ok q =>
     obtain ⟨x, j⟩ := q
     rw [hq] at ih
     simp only at ih ⊢
     rw [sun_v]
     (try unfold un1 at *); (try unfold rsB at *); (try unfold tkB at *); (try unfold givenS at *)
     rw [syntax_reader_unary.L1_0_1_0_eq]
     simp only [hh, h1, h2, ih, c2, hd, wi, if_pos ri, hs, lz, lx, if_true, if_false]
 ·rw [c] at hh
  simp only [Bool.false_eq_true, if_false] at hh
  (try unfold un1 at *); (try unfold rsB at *); (try unfold tkB at *); (try unfold givenS at *)
  rw [syntax_reader_unary.L1_0_1_0_eq]
  simp only [hh, c2, hd, wi, if_pos ri, hs, lz, lx, if_true, if_false]
theorem un_s {k : Nat} (hk : k < l.length) (d : Int) (ps : List (List V)) (h0 : 0 <= d) (h6 : d <= 60) (far : FarS l k) : RsX l ps (oneW l d k) (den Sp syntax_reader_unary.id [.ref 0 0, .int .i64 d] [rsB l k ps] none) := by
 have e0 : den Sp syntax_reader_unary.id [.ref 0 0, .int .i64 d] [rsB l k ps] none = un1 l ps d (0 : Nat) k := by
  unfold rsB un1
  rw [syntax_reader_unary.eq]; rfl
 have u0 := un_at hl hn hk d ps h0 h6 far 0 [45] (by decide) rfl
 have u1 := un_at hl hn hk d ps h0 h6 far 1 [33] (by decide) rfl
 rw [e0, oneW, dif_pos hk]
 by_cases c45 : isT (tk l k) [45] = true
 ·rw [if_pos (.inl c45), ((isT_of c45).2 : (tk l k).text = [45])]
  exact u0.1 c45
 have c45' : isT (tk l k) [45] = false := by simpa using c45
 rw [u0.2 c45']
 by_cases c33 : isT (tk l k) [33] = true
 ·rw [if_pos (.inr c33), ((isT_of c33).2 : (tk l k).text = [33])]
  exact u1.1 c33
 have c33' : isT (tk l k) [33] = false := by simpa using c33
 show RsX l ps _ (un1 l ps d (1 : Nat) k)
 rw [u1.2 c33', if_neg (by rw [c45', c33']; simp)]
 clear u0 u1 e0
 have r := row_in hk
 have hh := fun s => has_s hn hk s
 have hd : IntKind.i64.wrap (d + 1) = d + 1 := wrap_in (by omega) (by omega)
 have hw := wr1 (show k < 1099511627776 by omega)
 have c2 : decide ((((1 : Nat) + 1 : Nat) : Int) < 2) = false := rfl
 by_cases c40 : isT (tk l k) [40] = true
 ·have h40 := hh [40]
  rw [if_pos c40] at h40 ⊢
  rw [c40] at h40
  have hk1 := hl.isT hk c40
  have ih := expr_s hl hn hk1 (d + 1) ps fun h => far.bin (k + 1) (by omega) hk1 1 (d + 1) ps (by omega) (by omega) (by omega) h
  unfold wantR
  unfold RsX at *
  cases hq : partR l (d + 1) (k + 1) (tightW l 1 (d + 1) (k + 1)) with
  | error e =>
   rw [hq] at ih
   obtain ⟨j, ih⟩ := ih
   refine ⟨j, ?_⟩
   (try unfold un1 at *); (try unfold rsB at *); (try unfold tkB at *); (try unfold givenS at *)
   rw [syntax_reader_unary.L1_0_1_0_eq]
   simp only [h40, ih, c2, hd, hw, if_pos r, Int.toNat_natCast, tok_g hk, tkv_0, tkv_1, tkv_2, tkv_3, lz, lx, if_true, if_false]
  | ok q =>
   obtain ⟨x, j⟩ := q
   rw [hq] at ih
   have hj := (tight_goes hl hk1 (partR_ok hq)).2
   have hnd := need_s hn hj [41]
   unfold RsT at hnd
   simp only at ih ⊢
   by_cases c41 : isT (tk l j) [41] = true
   ·rw [if_pos c41] at hnd ⊢
    simp only [id] at hnd ⊢
    (try unfold un1 at *); (try unfold rsB at *); (try unfold tkB at *); (try unfold givenS at *)
    rw [syntax_reader_unary.L1_0_1_0_eq]
    simp only [h40, ih, hnd, c2, hd, hw, if_pos r, Int.toNat_natCast, tok_g hk, tkv_0, tkv_1, tkv_2, tkv_3, lz, lx, if_true, if_false]
   ·rw [if_neg c41] at hnd ⊢
    obtain ⟨j2, hnd⟩ := hnd
    refine ⟨j2, ?_⟩
    (try unfold un1 at *); (try unfold rsB at *); (try unfold tkB at *); (try unfold givenS at *)
    rw [syntax_reader_unary.L1_0_1_0_eq]
    simp only [h40, ih, hnd, c2, hd, hw, if_pos r, Int.toNat_natCast, tok_g hk, tkv_0, tkv_1, tkv_2, tkv_3, lz, lx, if_true, if_false]
 have h40 := hh [40]
 rw [if_neg c40] at h40 ⊢
 rw [show isT (tk l k) [40] = false by simpa using c40] at h40
 by_cases ct : isT (tk l k) [116, 114, 117, 101] = true
 ·have ht := hh [116, 114, 117, 101]
  rw [if_pos ct] at ht ⊢
  rw [ct] at ht
  unfold RsX
  simp only
  rw [sleaf_v]
  (try unfold un1 at *); (try unfold rsB at *); (try unfold tkB at *); (try unfold givenS at *)
  rw [syntax_reader_unary.L1_0_1_0_eq]
  simp only [h40, ht, c2, hd, hw, if_pos r, Int.toNat_natCast, tok_g hk, tkv_0, tkv_1, tkv_2, tkv_3, lz, lx, if_true, if_false]
 have ht := hh [116, 114, 117, 101]
 rw [if_neg ct] at ht ⊢
 rw [show isT (tk l k) [116, 114, 117, 101] = false by simpa using ct] at ht
 by_cases cf : isT (tk l k) [102, 97, 108, 115, 101] = true
 ·have hf := hh [102, 97, 108, 115, 101]
  rw [if_pos cf] at hf ⊢
  rw [cf] at hf
  unfold RsX
  simp only
  rw [sleaf_v]
  (try unfold un1 at *); (try unfold rsB at *); (try unfold tkB at *); (try unfold givenS at *)
  rw [syntax_reader_unary.L1_0_1_0_eq]
  simp only [h40, ht, hf, c2, hd, hw, if_pos r, Int.toNat_natCast, tok_g hk, tkv_0, tkv_1, tkv_2, tkv_3, lz, lx, if_true, if_false]
 have hf := hh [102, 97, 108, 115, 101]
 rw [if_neg cf] at hf ⊢
 rw [show isT (tk l k) [102, 97, 108, 115, 101] = false by simpa using cf] at hf
 by_cases c2k : (tk l k).kind = 2
 ·rw [if_pos c2k]
  have c2' : ((tk l k).kind == 2) = true := by simpa using c2k
  unfold RsX
  simp only
  rw [sleaf_v]
  (try unfold un1 at *); (try unfold rsB at *); (try unfold tkB at *); (try unfold givenS at *)
  rw [syntax_reader_unary.L1_0_1_0_eq]
  simp only [h40, ht, hf, c2', c2, hd, hw, if_pos r, Int.toNat_natCast, tok_g hk, tkv_0, tkv_1, tkv_2, tkv_3, lz, lx, if_true, if_false]
 rw [if_neg c2k]
 have c2' : ((tk l k).kind == 2) = false := by simpa using c2k
 have hnm := name_s hn hk
 unfold RsT nameR wrongR at hnm
 by_cases c1 : (tk l k).kind = 1
 ·rw [if_pos c1] at hnm
  simp only at hnm
  rw [if_neg (by omega)]
  have hk1 := hl.next hk (by omega)
  have hg := has_s hn hk1 [91]
  by_cases c91 : isT (tk l (k + 1)) [91] = true
  ·rw [if_pos c91] at hg ⊢
   rw [c91] at hg
   have hk2 := hl.isT hk1 c91
   have ih := expr_s hl hn hk2 (d + 1) ps fun h => far.bin (k + 2) (by omega) hk2 1 (d + 1) ps (by omega) (by omega) (by omega) h
   unfold wantR
   unfold RsX at *
   cases hq : partR l (d + 1) (k + 2) (tightW l 1 (d + 1) (k + 2)) with
   | error e =>
    have q2 : partR l (d + 1) (k + 1 + 1) (tightW l 1 (d + 1) (k + 1 + 1)) = _ := hq
    rw [q2] at ih
    obtain ⟨j, ih⟩ := ih
    refine ⟨j, ?_⟩
    (try unfold un1 at *); (try unfold rsB at *); (try unfold tkB at *); (try unfold givenS at *)
    rw [syntax_reader_unary.L1_0_1_0_eq]
    simp only [h40, ht, hf, c2', hnm, hg, ih, c2, hd, hw, if_pos r, Int.toNat_natCast, tok_g hk, tkv_0, tkv_1, tkv_2, tkv_3, lz, lx, if_true, if_false]
   | ok q =>
    obtain ⟨x, j⟩ := q
    have q2 : partR l (d + 1) (k + 1 + 1) (tightW l 1 (d + 1) (k + 1 + 1)) = _ := hq
    rw [q2] at ih
    have hj := (tight_goes hl hk2 (partR_ok hq)).2
    have hnd := need_s hn hj [93]
    unfold RsT at hnd
    simp only at ih ⊢
    by_cases c93 : isT (tk l j) [93] = true
    ·rw [if_pos c93] at hnd ⊢
     simp only at hnd ⊢
     rw [sun_v]
     (try unfold un1 at *); (try unfold rsB at *); (try unfold tkB at *); (try unfold givenS at *)
     rw [syntax_reader_unary.L1_0_1_0_eq]
     simp only [h40, ht, hf, c2', hnm, hg, ih, hnd, c2, hd, hw, if_pos r, Int.toNat_natCast, tok_g hk, tkv_0, tkv_1, tkv_2, tkv_3, lz, lx, if_true, if_false]
    ·rw [if_neg c93] at hnd ⊢
     obtain ⟨j2, hnd⟩ := hnd
     refine ⟨j2, ?_⟩
     (try unfold un1 at *); (try unfold rsB at *); (try unfold tkB at *); (try unfold givenS at *)
     rw [syntax_reader_unary.L1_0_1_0_eq]
     simp only [h40, ht, hf, c2', hnm, hg, ih, hnd, c2, hd, hw, if_pos r, Int.toNat_natCast, tok_g hk, tkv_0, tkv_1, tkv_2, tkv_3, lz, lx, if_true, if_false]
  ·rw [if_neg c91] at hg ⊢
   rw [show isT (tk l (k + 1)) [91] = false by simpa using c91] at hg
   unfold RsX
   simp only
   rw [sleaf_v]
   (try unfold un1 at *); (try unfold rsB at *); (try unfold tkB at *); (try unfold givenS at *)
   rw [syntax_reader_unary.L1_0_1_0_eq]
   simp only [h40, ht, hf, c2', hnm, hg, c2, hd, hw, if_pos r, Int.toNat_natCast, tok_g hk, tkv_0, tkv_1, tkv_2, tkv_3, lz, lx, if_true, if_false]
 ·rw [if_neg c1] at hnm
  obtain ⟨j, hnm⟩ := hnm
  rw [if_pos c1]
  refine ⟨j, ?_⟩
  (try unfold un1 at *); (try unfold rsB at *); (try unfold tkB at *); (try unfold givenS at *)
  rw [syntax_reader_unary.L1_0_1_0_eq]
  simp only [h40, ht, hf, c2', hnm, c2, hd, hw, if_pos r, Int.toNat_natCast, tok_g hk, tkv_0, tkv_1, tkv_2, tkv_3, lz, lx, if_true, if_false]
noncomputable def lev1 (l : List Tk) (ps : List (List V)) (n d : Int) (s : List UInt8) (x : Ex) (k : Nat) : Option Res := syntax_reader_bin.L1_1_1_0_1_0 n d (B s) (l.map Tk.v) (k : Int) ps x.kind (B x.name) x.num (x.l.map Ex.v)
def signAt (l : List Tk) (n : Int) (k : Nat) : List UInt8 := if signT (tk l k) = n then (tk l k).text else []
theorem lev_s {k : Nat} (hk : k < l.length) (n d : Int) (ps : List (List V)) (n1 : 1 <= n) (n5 : n <= 5) (h0 : 0 <= d) (h6 : d <= 60) (x : Ex) (far : FarS l k)
  (hnext : ∀ k', k < k' -> k' < l.length -> ∀ x, RsX l ps (levW l n d x k') (lev1 l ps n d (signAt l n k') x k')) : RsX l ps (levW l n d x k) (lev1 l ps n d (signAt l n k) x k) := by
 have hw := wr1 (show k < 1099511627776 by omega)
 have hwn : IntKind.i64.wrap (n + 1) = n + 1 := wrap_in (by omega) (by omega)
 rw [levW, dif_pos hk]
 unfold signAt
 by_cases c : signT (tk l k) = n
 ·rw [if_pos c, if_neg (show ¬ signT (tk l k) ≠ n from fun h => h c)]
  have c4 : (tk l k).kind = 4 ∧ levelT (tk l k).text = n := by
   unfold signT at c
   by_cases c4 : (tk l k).kind = 4
   ·rw [if_pos c4] at c; exact ⟨c4, c⟩
   ·rw [if_neg c4] at c; omega
  have hk1 := hl.next hk (by omega)
  have hne : (tk l k).text ≠ [] := level_ne (by rw [c4.2]; omega)
  have hne' : ∀ i : Decidable (B (tk l k).text = B []), @decide _ i = false := fun i => @decide_eq_false _ i fun h => hne (B_inj.1 h)
  have ih := far.bin (k + 1) (by omega) hk1 (n + 1) d ps (by omega) (by omega) h0 h6
  unfold RsX at ih ⊢
  cases hq : tightW l (n + 1) d (k + 1) with
  | error e =>
   rw [hq] at ih
   obtain ⟨j, ih⟩ := ih
   refine ⟨j, ?_⟩
   (try unfold lev1 at *); (try unfold rsB at *); (try unfold tkB at *); (try unfold givenS at *)
   rw [syntax_reader_bin.L1_1_1_0_1_0_eq]
   simp only [ih, hw, hwn, lz, lx, if_true, if_false]
   simp [hne, B_inj]
  | ok q =>
   obtain ⟨y, j⟩ := q
   rw [hq] at ih
   have hj := tight_goes hl hk1 hq
   simp only at ih ⊢
   by_cases c3 : n = 3
   ·rw [if_pos c3]
    have c3' : (n == 3) = true := by simpa using c3
    simp only
    rw [sbin_v]
    (try unfold lev1 at *); (try unfold rsB at *); (try unfold tkB at *); (try unfold givenS at *)
    rw [syntax_reader_bin.L1_1_1_0_1_0_eq]
    simp only [ih, hw, hwn, c3', lz, lx, if_true, if_false]
    simp [hne, B_inj]
   ·rw [if_neg c3, dif_pos (show k < j by omega)]
    have c3' : (n == 3) = false := by simpa using c3
    have hs := sign_s hn hj.2 ps n n1
    have e : lev1 l ps n d (tk l k).text x k = lev1 l ps n d (signAt l n j) (.mk 6 (tk l k).text 0 [x, y]) j := by
     (try unfold lev1 at *); (try unfold rsB at *); (try unfold tkB at *); (try unfold givenS at *)
     rw [syntax_reader_bin.L1_1_1_0_1_0_eq]
     simp only [ih, hw, hwn, c3', hs, lz, lx, if_true, if_false]
     simp [hne, B_inj, signAt]
    rw [e]
    exact hnext j (by omega) hj.2 _
 ·rw [if_neg c, if_pos c]
  unfold RsX
  simp only
  (try unfold lev1 at *); (try unfold rsB at *); (try unfold tkB at *); (try unfold givenS at *)
  rw [syntax_reader_bin.L1_1_1_0_1_0_eq]
  simp only [decide_true, lz, lx, if_true, if_false]
theorem all_s : ∀ m k : Nat, l.length - k <= m -> k < l.length ->
  (∀ (d : Int) ps, 0 <= d -> d <= 60 -> RsX l ps (oneW l d k) (den Sp syntax_reader_unary.id [.ref 0 0, .int .i64 d] [rsB l k ps] none)) ∧
  (∀ (n d : Int) ps, 1 <= n -> n <= 6 -> 0 <= d -> d <= 60 -> RsX l ps (tightW l n d k) (den Sp syntax_reader_bin.id [.ref 0 0, .int .i64 n, .int .i64 d] [rsB l k ps] none)) ∧
  (∀ (n d : Int) ps x, 1 <= n -> n <= 5 -> 0 <= d -> d <= 60 -> RsX l ps (levW l n d x k) (lev1 l ps n d (signAt l n k) x k)) := by
 intro m
 induction m with
 | zero => intro k h1 h2; omega
 | succ m ih =>
  intro k hm hk
  have far : FarS l k := ⟨fun k' h1 h2 => (ih k' (by omega) h2).1, fun k' h1 h2 => (ih k' (by omega) h2).2.1⟩
  have un := fun d ps h0 h6 => un_s hl hn hk d ps h0 h6 far
  have lev := fun (n d : Int) ps x n1 n5 h0 h6 => lev_s hl hn hk n d ps n1 n5 h0 h6 x far fun k' h1 h2 x => (ih k' (by omega) h2).2.2 n d ps x n1 n5 h0 h6
  refine ⟨un, ?_, lev⟩
  have bin : ∀ (q : Nat) (n d : Int) ps, n + (q : Int) = 6 -> 1 <= n -> 0 <= d -> d <= 60 -> RsX l ps (tightW l n d k) (den Sp syntax_reader_bin.id [.ref 0 0, .int .i64 n, .int .i64 d] [rsB l k ps] none) := by
   intro q
   induction q with
   | zero =>
    intro n d ps hq n1 h0 h6
    obtain rfl : n = 6 := by omega
    rw [tight_one hl hk]
    have h := un d ps h0 h6
    have c : decide ((6 : Int) > 5) = true := by decide
    unfold RsX at *
    cases hq : oneW l d k with
    | error e =>
     rw [hq] at h
     obtain ⟨j, h⟩ := h
     refine ⟨j, ?_⟩
     (try unfold rsB at *); (try unfold tkB at *); (try unfold givenS at *)
     rw [syntax_reader_bin.eq]
     simp only [h, c, lz, lx, if_true, if_false]
    | ok q =>
     obtain ⟨x, j⟩ := q
     rw [hq] at h
     simp only at h ⊢
     (try unfold rsB at *); (try unfold tkB at *); (try unfold givenS at *)
     rw [syntax_reader_bin.eq]
     simp only [h, c, lz, lx, if_true, if_false]
   | succ q ihq =>
    intro n d ps hq n1 h0 h6
    have hwn : IntKind.i64.wrap (n + 1) = n + 1 := wrap_in (by omega) (by omega)
    have c : decide (n > 5) = false := decide_eq_false (by omega)
    have h := ihq (n + 1) d ps (by omega) (by omega) h0 h6
    rw [tight_lev hl hk n d n1 (by omega)]
    unfold thenR
    unfold RsX at h
    cases hq : tightW l (n + 1) d k with
    | error e =>
     rw [hq] at h
     obtain ⟨j, h⟩ := h
     refine ⟨j, ?_⟩
     (try unfold rsB at *); (try unfold tkB at *); (try unfold givenS at *)
     rw [syntax_reader_bin.eq]
     simp only [h, c, hwn, lz, lx, if_true, if_false]
    | ok r =>
     obtain ⟨x, j⟩ := r
     rw [hq] at h
     have hj := tight_goes hl hk hq
     simp only at h ⊢
     have hs := sign_s hn hj.2 ps n n1
     have e : den Sp syntax_reader_bin.id [.ref 0 0, .int .i64 n, .int .i64 d] [rsB l k ps] none = lev1 l ps n d (signAt l n j) x j := by
      (try unfold lev1 at *); (try unfold rsB at *); (try unfold tkB at *); (try unfold givenS at *)
      rw [syntax_reader_bin.eq]
      simp only [h, c, hwn, hs, lz, lx, if_true, if_false]
      rfl
     rw [e]
     exact (ih j (by omega) hj.2).2.2 n d ps x n1 (by omega) h0 h6
  exact fun n d ps n1 n6 h0 h6 => bin (6 - n).toNat n d ps (by omega) n1 h0 h6
theorem expr_s_is {k : Nat} (hk : k < l.length) (d : Int) (ps : List (List V)) (h0 : 0 <= d) : RsX l ps (partR l d k (tightW l 1 d k)) (den Sp syntax_reader_expr.id [.ref 0 0, .int .i64 d] [rsB l k ps] none) :=
 expr_s hl hn hk d ps fun h => (all_s hl hn _ k (Nat.le_refl _) hk).2.1 1 d ps (by decide) (by decide) h0 h
theorem syntax_ReadExpr_is (hr : den Sp lex_Right.id [.sl .no T_api_Token (l.map Tk.v)] [] none = some ⟨.ret (.bool true), [], none⟩) : ReadsE syntax_ReadExpr.id l := by
 intro k hk
 have h := expr_s_is hl hn hk 1 [] (by decide)
 have k1 : decide ((k : Int) < 0) = false := decide_eq_false (by omega)
 have k2 : decide ((k : Int) >= (l.length : Int)) = false := decide_eq_false (by omega)
 unfold readE
 unfold RsX at h
 rw [syntax_ReadExpr.eq]
 simp only [hr, k1, k2, List.length_map, lz, lx, if_true, if_false]
 rw [syntax_ReadExpr.J1_1_0_eq]
 cases hq : partR l 1 k (tightW l 1 1 k) with
 | error e =>
  rw [hq] at h
  obtain ⟨j, h⟩ := h
  (try unfold rsB at *); (try unfold tkB at *); (try unfold givenS at *)
  simp only [sleaf_v]
  simp only [h, syntax_ReadExpr_1.eq1, syntax_caught.eq, asTup_2, onPn_none, onPn_some, List.nil_append, lz, lx, if_true, if_false]
 | ok q =>
  obtain ⟨x, j⟩ := q
  rw [hq] at h
  simp only at h ⊢
  (try unfold rsB at *); (try unfold tkB at *); (try unfold givenS at *)
  simp only [h, syntax_ReadExpr_1.eq0, onPn_none, onPn_some, lz, lx, if_true, if_false]
end
end Go.Proofs.YtmhnmelaodhemaaDoor
namespace Go.Proofs.YtmhnmelaodhemaaDoor
open Go Go.Proofs.Ab Go.Proofs.Px
theorem lex_sign_is (l : List UInt8) (hl : l.length < 4611686018427387904) : den Sp lex_sign.id [.str (B l)] [] none = some ⟨.ret (.str (B (sign l))), [], none⟩ := by
 rw [lex_sign.eq]
 have key : ∀ i : Nat, i <= 21 -> lex_sign.L1_0_1_1_0_1_0 (B l) (i : Int) = some ⟨.ret (.str (B (signIn l (signs.drop i)))), [], none⟩ := by
  refine down ?_ fun i hi ih => ?_
  ·rw [lex_sign.L1_0_1_1_0_1_0_eq]; rfl
  ·rw [lex_sign.L1_0_1_1_0_1_0_eq, wrap_nat (by omega), ih]
   have hi' : i < signs.length := hi
   have h1 : ((i : Int) < 21) := by omega
   have h2 : ((0 : Int) <= i ∧ (i : Int) < ((21 : Nat) : Int)) := by omega
   rw [show (decide ((i : Int) < 21)) = true by simp [h1], cond_true, if_pos h2]
   try rw [sz_str]
   have h3 : (signs.map fun x => V.str (B x)).getD ((Int.toNat (i : Int)) * 1 + 0) V.undef = V.str (B (signs[i]'hi')) := by
    rw [List.getD_eq_getElem?_getD, List.getElem?_map, show Int.toNat (i : Int) * 1 + 0 = i by simp, List.getElem?_eq_getElem hi']
    rfl
   refine (congrArg (fun v => V.asStr v _) h3).trans ?_
   rw [asStr_str, List.drop_eq_getElem_cons hi']
   generalize signs[i]'hi' = x
   have hs : signIn l (x :: signs.drop (i + 1)) = if l.take x.length = x then x else signIn l (signs.drop (i + 1)) := rfl
   rw [hs]
   simp only [B_size, Int.toNat_natCast, B_extract, List.drop_zero, Nat.sub_zero, B_dec, Nat.zero_le, true_and]
   by_cases hx : x.length <= l.length
   ·have h4 : ((x.length : Nat) : Int) <= ((l.length : Nat) : Int) := by omega
    simp only [h4, decide_true, cond_true, hx, if_true]
    by_cases he : l.take x.length = x
    ·simp [he]
    ·simp [he]
   ·have h4 : ¬ ((x.length : Nat) : Int) <= ((l.length : Nat) : Int) := by omega
    have he : ¬ l.take x.length = x := fun h => by
     have := congrArg List.length h
     simp at this; omega
    simp [h4, he]
 exact key 0 (by omega)
def rd (l : List UInt8) (i : Int) : Blk := .cells T_lex_reader [.str (B l), .int .i64 i] false
theorem blank_T (l : List UInt8) (hl : l.length < 4611686018427387904) (i : Nat) (hi : i < l.length) (c : UInt8) (hc : l.getD i 0 = c) :
  lex_reader_blank.L0_0_1_0_1_0_1_1_1_0_0 (B l) (i : Int) = bif (c == 10) then lex_reader_blank.L0 (B l) (i : Int) else lex_reader_blank.L0_0_1_0_1_0_1_1_1_0_0 (B l) ((i + 1 : Nat) : Int) := by
 have hlt : ((i : Int) < (l.length : Int)) := by omega
 have hcond : (0 : Int) <= (i : Int) ∧ (i : Int) < (l.length : Int) := ⟨by omega, hlt⟩
 rw [lex_reader_blank.L0_0_1_0_1_0_1_1_1_0_0_eq, wrap_nat (by omega), B_size, decide_eq_true hlt, cond_true, if_pos hcond, Int.toNat_natCast, B_byte, hc]
 have hne : ((c.toNat : Int) != (10 : Int)) = !(c == 10) := congrArg not (byte_eq c 10 (by omega))
 rw [hne]
 cases (c == 10) <;> simp only [Bool.not_false, Bool.not_true, cond_true, cond_false]
theorem blank_F (l : List UInt8) (hl : l.length < 4611686018427387904) (i : Nat) (hi : i < l.length) (c : UInt8) (hc : l.getD i 0 = c) :
  lex_reader_blank.L0 (B l) (i : Int) = bif (c == 32) then lex_reader_blank.L0 (B l) ((i + 1 : Nat) : Int) else bif (c == 10) then lex_reader_blank.L0 (B l) ((i + 1 : Nat) : Int) else
   bif (c == 35) then lex_reader_blank.L0_0_1_0_1_0_1_1_1_0_0 (B l) (i : Int) else some ⟨.ret (.tup []), [rd l (i : Int)], none⟩ := by
 have hlt : ((i : Int) < (l.length : Int)) := by omega
 have hcond : (0 : Int) <= (i : Int) ∧ (i : Int) < (l.length : Int) := ⟨by omega, hlt⟩
 rw [lex_reader_blank.L0_eq, wrap_nat (by omega), B_size, decide_eq_true hlt, cond_true, if_pos hcond, Int.toNat_natCast, B_byte, hc]
 have h1 : ((c.toNat : Int) == (32 : Int)) = (c == 32) := byte_eq c 32 (by omega)
 have h2 : ((c.toNat : Int) == (10 : Int)) = (c == 10) := byte_eq c 10 (by omega)
 have h3 : ((c.toNat : Int) == (35 : Int)) = (c == 35) := byte_eq c 35 (by omega)
 rw [h1, h2, h3]
 unfold rd
 cases (c == 32) <;> cases (c == 10) <;> cases (c == 35) <;> simp only [cond_true, cond_false]
theorem lex_blank_is (l : List UInt8) (hl : l.length < 4611686018427387904) (i : Nat) (hi : i <= l.length) :
  den Sp lex_reader_blank.id [.ref 0 0] [rd l i] none = some ⟨.ret (.tup []), [rd l ((l.length - (sk false (l.drop i)).length : Nat) : Int)], none⟩ := by
 show den Sp lex_reader_blank.id [.ref 0 0] [.cells T_lex_reader [.str (B l), .int .i64 i] false] none = _
 rw [lex_reader_blank.eq]
 have key : ∀ i : Nat, i <= l.length -> lex_reader_blank.L0 (B l) (i : Int) = some ⟨.ret (.tup []), [rd l ((l.length - (sk false (l.drop i)).length : Nat) : Int)], none⟩ ∧
   lex_reader_blank.L0_0_1_0_1_0_1_1_1_0_0 (B l) (i : Int) = some ⟨.ret (.tup []), [rd l ((l.length - (sk true (l.drop i)).length : Nat) : Int)], none⟩ := by
  refine down ?_ fun i hi ih => ?_
  ·have hlt : ¬ ((l.length : Int) < (l.length : Int)) := by omega
   have h0 : lex_reader_blank.L0 (B l) (l.length : Int) = some ⟨.ret (.tup []), [rd l ((l.length : Nat) : Int)], none⟩ := by
    rw [lex_reader_blank.L0_eq, B_size, decide_eq_false hlt]; rfl
   have h1 : lex_reader_blank.L0_0_1_0_1_0_1_1_1_0_0 (B l) (l.length : Int) = lex_reader_blank.L0 (B l) (l.length : Int) := by
    rw [lex_reader_blank.L0_0_1_0_1_0_1_1_1_0_0_eq, B_size, decide_eq_false hlt]; rfl
   rw [h1, h0, List.drop_length]
   exact ⟨rfl, rfl⟩
  ·obtain ⟨ih1, ih2⟩ := ih
   obtain ⟨c, hc⟩ : ∃ c, l.getD i 0 = c := ⟨_, rfl⟩
   have hd := drop_cons hi
   rw [hc] at hd
   have hT := blank_T l hl i hi c hc
   have hF := blank_F l hl i hi c hc
   have hn : l.length - (c :: l.drop (i + 1)).length = i := by rw [<- hd, List.length_drop]; omega
   have goF : lex_reader_blank.L0 (B l) (i : Int) = some ⟨.ret (.tup []), [rd l ((l.length - (sk false (l.drop i)).length : Nat) : Int)], none⟩ := by
    rw [hF, hd]
    unfold sk
    by_cases c10 : c = 10
    ·subst c10
     simp only [beq_self_eq_true, cond_true, show ((10 : UInt8) == 32) = false from rfl, cond_false, if_true]
     exact ih1
    ·rw [if_neg c10, if_neg nofun]
     by_cases c32 : c = 32
     ·subst c32
      simp only [beq_self_eq_true, cond_true, if_true]
      exact ih1
     ·rw [if_neg c32]
      by_cases c35 : c = 35
      ·subst c35
       simp only [beq_self_eq_true, cond_true, if_true, show ((35 : UInt8) == 32) = false from rfl, show ((35 : UInt8) == 10) = false from rfl, cond_false]
       rw [hT]
       simp only [show ((35 : UInt8) == 10) = false from rfl, cond_false]
       exact ih2
      ·rw [if_neg c35, beq_eq_false_iff_ne.2 c10, beq_eq_false_iff_ne.2 c32, beq_eq_false_iff_ne.2 c35, cond_false, cond_false, cond_false, hn]
   refine ⟨goF, ?_⟩
   rw [hT]
   by_cases c10 : c = 10
   ·subst c10
    simp only [beq_self_eq_true, cond_true]
    rw [goF, hd]
    have : sk false (10 :: l.drop (i + 1)) = sk true (10 :: l.drop (i + 1)) := by simp [sk]
    rw [this]
   ·rw [beq_eq_false_iff_ne.2 c10, cond_false, ih2, hd]
    have : sk true (c :: l.drop (i + 1)) = sk true (l.drop (i + 1)) := by
     rw [sk, if_neg c10, if_pos rfl]
    rw [this]
 exact (key i hi).1
theorem lex_word_is (l : List UInt8) (hl : l.length < 4611686018427387904) (i : Nat) (hi : i <= l.length) :
  den Sp lex_reader_word.id [.ref 0 0] [rd l i] none = some ⟨.ret (.str (B (word (l.drop i)))), [rd l i], none⟩ := by
 show den Sp lex_reader_word.id [.ref 0 0] [.cells T_lex_reader [.str (B l), .int .i64 i] false] none = _
 rw [lex_reader_word.eq]
 have fin : ∀ k : Nat, i <= k -> k <= l.length -> (if ((0 : Int) <= (i : Int)) then (if ((0 : Int) <= (k : Int)) then (if (((Int.toNat (i : Int)) <= (Int.toNat (k : Int))) ∧ ((Int.toNat (k : Int)) <= (ByteArray.size (B l)))) then (some (Res.mk (Out.ret (V.str (ByteArray.extract (B l) (Int.toNat (i : Int)) (Int.toNat (k : Int))))) [(Blk.cells T_lex_reader [(V.str (B l)), (V.int IntKind.i64 i)] Bool.false)] none)) else none) else none) else none) =
   some ⟨.ret (.str (B ((l.drop i).take (k - i)))), [rd l i], none⟩ := fun k h1 h2 => by
  rw [if_pos (by omega), if_pos (by omega), if_pos (by simp; omega)]
  simp [rd]
 have key : ∀ k : Nat, k <= l.length -> i <= k -> lex_reader_word.L1_1_0_0 (k : Int) (B l) (i : Int) = some ⟨.ret (.str (B ((l.drop i).take (k - i + (word (l.drop k)).length)))), [rd l i], none⟩ := by
  refine down (fun hik => ?_) fun k hk ih hik => ?_
  ·rw [lex_reader_word.L1_1_0_0_eq]
   have := fin l.length hik (Nat.le_refl _)
   simp only [B_size, Int.lt_irrefl, decide_false, cond_false]
   simp only [B_size] at this
   rw [this]; simp [word]
  ·have hlt : ((k : Int) < (l.length : Int)) := by omega
   have hcond : (0 : Int) <= (k : Int) ∧ (k : Int) < (l.length : Int) := ⟨by omega, hlt⟩
   have h2 := fin k hik (by omega)
   rw [B_size] at h2
   obtain ⟨c, hc⟩ : ∃ c, l.getD k 0 = c := ⟨_, rfl⟩
   have hd := drop_cons hk
   rw [hc] at hd
   rw [lex_reader_word.L1_1_0_0_eq, wrap_nat (by omega), ih (by omega), lex_inner_is, B_size, decide_eq_true hlt, cond_true, if_pos hcond, Int.toNat_natCast, B_byte, hc]
   simp only [Option.bind_some, onRet_ret, asBool_bool]
   have hw : word (c :: l.drop (k + 1)) = if inn c then c :: word (l.drop (k + 1)) else [] := by unfold word; rw [List.takeWhile_cons]
   rw [hd, hw]
   show (bif inn c then _ else _) = _
   cases hin : inn c with
   | true =>
    simp only [cond_true, if_true, List.length_cons]
    rw [show k + 1 - i + (word (l.drop (k + 1))).length = k - i + ((word (l.drop (k + 1))).length + 1) by omega]
   | false =>
    simp only [cond_false, List.length_nil, Nat.add_zero]
    simp only [Int.toNat_natCast] at h2
    exact h2
 have := key i hi (Nat.le_refl _)
 rw [this, Nat.sub_self, Nat.zero_add]
 have hw : (l.drop i).take (word (l.drop i)).length = word (l.drop i) := by
  unfold word
  exact (List.prefix_iff_eq_take.1 (List.takeWhile_prefix inn)).symm
 rw [hw]
def pairV (x : Int × Int) : Option Res := some ⟨.ret (.tup [.int .i64 x.1, .int .i64 x.2]), [], none⟩
theorem tdiv10 {n : Int} (h : 0 <= n) : Int.tdiv n 10 = n / 10 := Int.tdiv_eq_ediv_of_nonneg h
theorem parse_round (X Y : Option Res) (u : Nat) (hu : u <= 9223372036854775808) (c : UInt8) (r : List UInt8) (hX : X = pairV (0, 10)) (hY : dg c = true -> u * 10 + (c.toNat - 48) <= 9223372036854775808 -> Y = pairV (parseGo (u * 10 + (c.toNat - 48)) r)) :
  (bif (decide ((c.toNat : Int) < (48 : Int))) then X else (bif (decide ((IntKind.wrap IntKind.u64 ((IntKind.wrap IntKind.u64 (c.toNat : Int)) - (48 : Int))) > (9 : Int))) then X else
   (bif (decide ((u : Int) > (IntKind.wrap IntKind.u64 (Int.tdiv (IntKind.wrap IntKind.u64 ((9223372036854775808 : Int) - (IntKind.wrap IntKind.u64 ((IntKind.wrap IntKind.u64 (c.toNat : Int)) - (48 : Int))))) (10 : Int))))) then X else Y))) = pairV (parseGo u (c :: r)) := by
 have hc : c.toNat < 256 := c.toNat_lt
 unfold parseGo
 by_cases h1 : (c.toNat : Int) < 48
 ·have : ¬ (dg c = true ∧ u * 10 + (c.toNat - 48) <= 9223372036854775808) := by
   rintro ⟨h2, _⟩
   unfold dg digit at h2
   simp only [Bool.and_eq_true, decide_eq_true_eq] at h2
   omega
  rw [decide_eq_true h1, cond_true, if_neg this, hX]
 ·have e1 : IntKind.wrap IntKind.u64 (c.toNat : Int) = (c.toNat : Int) := by rw [IntKind.wrap_u64]; omega
  have e2 : IntKind.wrap IntKind.u64 ((c.toNat : Int) - 48) = (c.toNat : Int) - 48 := by rw [IntKind.wrap_u64]; omega
  rw [e1, e2, decide_eq_false h1, cond_false]
  by_cases h2 : ((c.toNat : Int) - 48) > 9
  ·have : ¬ (dg c = true ∧ u * 10 + (c.toNat - 48) <= 9223372036854775808) := by
    rintro ⟨h3, _⟩
    unfold dg digit at h3
    simp only [Bool.and_eq_true, decide_eq_true_eq] at h3
    omega
   rw [decide_eq_true h2, cond_true, if_neg this, hX]
  ·have e3 : IntKind.wrap IntKind.u64 ((9223372036854775808 : Int) - ((c.toNat : Int) - 48)) = (9223372036854775808 : Int) - ((c.toNat : Int) - 48) := by rw [IntKind.wrap_u64]; omega
   have e4 : IntKind.wrap IntKind.u64 (((9223372036854775808 : Int) - ((c.toNat : Int) - 48)) / 10) = ((9223372036854775808 : Int) - ((c.toNat : Int) - 48)) / 10 := by rw [IntKind.wrap_u64]; omega
   rw [e3, tdiv10 (by omega), e4, decide_eq_false h2, cond_false]
   have hd : dg c = true := by
    unfold dg digit
    simp only [Bool.and_eq_true, decide_eq_true_eq]
    omega
   by_cases h3 : (u : Int) > ((9223372036854775808 : Int) - ((c.toNat : Int) - 48)) / 10
   ·have : ¬ (dg c = true ∧ u * 10 + (c.toNat - 48) <= 9223372036854775808) := by
     rintro ⟨_, h4⟩
     omega
    rw [decide_eq_true h3, cond_true, if_neg this, hX]
   ·have : (dg c = true ∧ u * 10 + (c.toNat - 48) <= 9223372036854775808) := ⟨hd, by omega⟩
    rw [decide_eq_false h3, cond_false, if_pos this, hY this.1 this.2]
theorem parse_next (u : Nat) (hu : u <= 9223372036854775808) (c : UInt8) (h : u * 10 + (c.toNat - 48) <= 9223372036854775808) (hd : dg c = true) :
  (IntKind.wrap IntKind.u64 ((IntKind.wrap IntKind.u64 ((u : Int) * (10 : Int))) + (IntKind.wrap IntKind.u64 ((IntKind.wrap IntKind.u64 (c.toNat : Int)) - (48 : Int))))) = ((u * 10 + (c.toNat - 48) : Nat) : Int) := by
 have hc : c.toNat < 256 := c.toNat_lt
 unfold dg digit at hd
 simp only [Bool.and_eq_true, decide_eq_true_eq] at hd
 have e1 : IntKind.wrap IntKind.u64 (c.toNat : Int) = (c.toNat : Int) := by rw [IntKind.wrap_u64]; omega
 have e2 : IntKind.wrap IntKind.u64 ((c.toNat : Int) - 48) = (c.toNat : Int) - 48 := by rw [IntKind.wrap_u64]; omega
 have e3 : IntKind.wrap IntKind.u64 ((u : Int) * 10) = (u : Int) * 10 := by rw [IntKind.wrap_u64]; omega
 have e4 : IntKind.wrap IntKind.u64 ((u : Int) * 10 + ((c.toNat : Int) - 48)) = (u : Int) * 10 + ((c.toNat : Int) - 48) := by rw [IntKind.wrap_u64]; omega
 rw [e1, e2, e3, e4]; omega
theorem parse_v2 (w : List UInt8) (hw : w.length < 4611686018427387904) : ∀ i, i <= w.length -> ∀ u : Nat, u <= 9223372036854775808 -> num_Parse.L1_0_1_1_1_1_1_0_1_0v2 (B w) (u : Int) (i : Int) = pairV (parseGo u (w.drop i)) := by
 refine down (fun u hu => ?_) fun i hi ih u hu => ?_
 ·have hlt : ¬ ((w.length : Int) < (w.length : Int)) := by omega
  rw [num_Parse.L1_0_1_1_1_1_1_0_1_0v2_eq, B_size, decide_eq_false hlt, cond_false, List.drop_length]
  unfold parseGo
  by_cases h : u = 9223372036854775808
  ·subst h; rfl
  ·have h' : ¬ ((u : Int) = 9223372036854775808) := by omega
   rw [if_neg h, beq_eq_false_iff_ne.2 h', cond_false, wrap_in (by omega) (by omega)]
   rfl
 ·have hlt : ((i : Int) < (w.length : Int)) := by omega
  have hcond : (0 : Int) <= (i : Int) ∧ (i : Int) < (w.length : Int) := ⟨by omega, hlt⟩
  obtain ⟨c, hc⟩ : ∃ c, w.getD i 0 = c := ⟨_, rfl⟩
  have hd := drop_cons hi
  rw [hc] at hd
  rw [num_Parse.L1_0_1_1_1_1_1_0_1_0v2_eq, B_size, decide_eq_true hlt, cond_true, if_pos hcond, if_pos hcond, Int.toNat_natCast, B_byte, hc, wrap_nat (by omega), hd]
  refine parse_round _ _ u hu c _ rfl fun hd2 hok => ?_
  rw [parse_next u hu c hok hd2]
  exact ih _ hok
theorem parse_v3 (w : List UInt8) (hw : w.length < 4611686018427387904) : ∀ i, i <= w.length -> ∀ u : Nat, u <= 9223372036854775808 -> num_Parse.L1_0_1_1_1_1_1_0_1_0v3 (B w) (u : Int) true (i : Int) = pairV (parseGo u (w.drop i)) := by
 refine down (fun u hu => ?_) fun i hi ih u hu => ?_
 ·have hlt : ¬ ((w.length : Int) < (w.length : Int)) := by omega
  rw [num_Parse.L1_0_1_1_1_1_1_0_1_0v3_eq, B_size, decide_eq_false hlt, cond_true, cond_false, List.drop_length]
  unfold parseGo
  by_cases h : u = 9223372036854775808
  ·subst h; rfl
  ·have h' : ¬ ((u : Int) = 9223372036854775808) := by omega
   rw [if_neg h, beq_eq_false_iff_ne.2 h', wrap_in (by omega) (by omega)]
   rfl
 ·have hlt : ((i : Int) < (w.length : Int)) := by omega
  have hcond : (0 : Int) <= (i : Int) ∧ (i : Int) < (w.length : Int) := ⟨by omega, hlt⟩
  obtain ⟨c, hc⟩ : ∃ c, w.getD i 0 = c := ⟨_, rfl⟩
  have hd := drop_cons hi
  rw [hc] at hd
  rw [num_Parse.L1_0_1_1_1_1_1_0_1_0v3_eq, B_size, decide_eq_true hlt, cond_true, cond_true, if_pos hcond, if_pos hcond, Int.toNat_natCast, B_byte, hc, wrap_nat (by omega), hd]
  refine parse_round _ _ u hu c _ rfl fun hd2 hok => ?_
  rw [parse_next u hu c hok hd2]
  exact ih _ hok
theorem num_Parse_dg (c : UInt8) (r : List UInt8) (hc : dg c = true) (hw : (c :: r).length < 4611686018427387904) : den Sp num_Parse.id [.str (B (c :: r))] [] none = pairV (parse (c :: r)) := by
 have hc8 : c.toNat < 256 := c.toNat_lt
 have hb := hc
 unfold dg digit at hb
 simp only [Bool.and_eq_true, decide_eq_true_eq] at hb
 have hne : decide (B (c :: r) = B []) = false := by rw [B_dec]; rfl
 have hcond : (0 : Int) <= 0 ∧ (0 : Int) < (((c :: r).length : Nat) : Int) := ⟨Int.le_refl _, by simp⟩
 have h45 : ((c.toNat : Int) == (45 : Int)) = false := beq_eq_false_iff_ne.2 (by omega)
 have hg : (c :: r).getD 0 0 = c := rfl
 rw [num_Parse.eq, B_nil, hne, B_size, Bool.not_false, cond_true, if_pos hcond, B_byte, hg, h45, cond_false, cond_true, if_pos hcond]
 have p2 := parse_v2 (c :: r) hw 0 (by omega) 0 (by omega)
 have p3 := parse_v3 (c :: r) hw 0 (by omega) 0 (by omega)
 rw [List.drop_zero] at p2 p3
 unfold parse
 rw [hg]
 by_cases h48 : c = 48
 ·subst h48
  have h1 : (((48 : UInt8).toNat : Int) != (48 : Int)) = false := rfl
  rw [h1, cond_false]
  by_cases hr : (48 :: r).length = 1
  ·have h2 : ((((48 :: r).length : Nat) : Int) == (1 : Int)) = true := by rw [hr]; rfl
   rw [h2, if_pos (.inr hr)]
   exact p3
  ·have h2 : ((((48 :: r).length : Nat) : Int) == (1 : Int)) = false := beq_eq_false_iff_ne.2 (by omega)
   have h3 : ¬ ((48 : UInt8) ≠ 48 ∨ (48 :: r).length = 1) := fun h => h.elim (fun h => h rfl) hr
   rw [h2, if_neg h3]
   rw [num_Parse.L1_0_1_1_1_1_1_0_1_0v3_eq]
   rfl
 ·have h1 : ((c.toNat : Int) != (48 : Int)) = true := by
   have := byte_eq c 48 (by omega)
   show (!((c.toNat : Int) == ((48 : Nat) : Int))) = true
   rw [this]
   have h5 : (c == UInt8.ofNat 48) = false := beq_eq_false_iff_ne.2 h48
   rw [h5]; rfl
  rw [h1, cond_true, if_pos (.inl h48)]
  exact p2
theorem word_le (r : List UInt8) : (word r).length <= r.length := by
 unfold word
 exact (List.takeWhile_prefix inn).length_le
theorem signIn_le (r : List UInt8) : ∀ l, (signIn r l).length <= r.length
 | [] => Nat.zero_le _
 | x :: l => by
  unfold signIn
  split
  ·rename_i h
   have := congrArg List.length h
   simp at this; omega
  ·exact signIn_le r l
theorem sign_le (r : List UInt8) : (sign r).length <= r.length := signIn_le r signs
theorem next_le (r : List UInt8) (a : Int) : (next r a).2.1 <= r.length := by
 unfold next
 split
 ·exact Nat.zero_le _
 ·split
  ·exact word_le _
  ·split
   ·exact word_le _
   ·exact sign_le _
theorem dg_inn {c : UInt8} (h : dg c = true) : inn c = true := by
 unfold inn inner
 have : digit (c.toNat : Int) = true := h
 rw [this]; simp
theorem isKey_B' (l : List UInt8) : isKey (B l) = isKeyL l := isKey_B l
theorem dec_len (n m : Nat) : decide ((n : Int) <= (m : Int)) = decide (n <= m) := by
 by_cases h : n <= m
 ·rw [decide_eq_true h, decide_eq_true (by omega)]
 ·rw [decide_eq_false h, decide_eq_false (by omega)]
theorem lex_next_is (l : List UInt8) (hl : l.length < 1099511627776) (i : Nat) (hi : i <= l.length) :
  den Sp lex_reader_next.id [.ref 0 0] [rd l i] none = some ⟨.ret (.tup [.agg (next (l.drop i) i).1.v, .bool (next (l.drop i) i).2.2]), [rd l ((i + (next (l.drop i) i).2.1 : Nat) : Int)], none⟩ := by
 show den Sp lex_reader_next.id [.ref 0 0] [.cells T_lex_reader [.str (B l), .int .i64 i] false] none = _
 rw [lex_reader_next.eq]
 by_cases hend : i = l.length
 ·subst hend
  rw [B_size, beq_self_eq_true, cond_true, List.drop_length]
  rfl
 ·have hlt : i < l.length := by omega
  have hne : (((i : Nat) : Int) == ((l.length : Nat) : Int)) = false := beq_eq_false_iff_ne.2 (by omega)
  have hcond : (0 : Int) <= (i : Int) ∧ (i : Int) < (l.length : Int) := ⟨by omega, by omega⟩
  obtain ⟨c, hc⟩ : ∃ c, l.getD i 0 = c := ⟨_, rfl⟩
  have hd := drop_cons hlt
  rw [hc] at hd
  have hwd := lex_word_is l (by omega) i hi
  have hwl := word_le (l.drop i)
  rw [List.length_drop] at hwl
  have hwr : ∀ n : Nat, n <= l.length - i -> IntKind.wrap IntKind.i64 ((i : Int) + (n : Int)) = ((i + n : Nat) : Int) := fun n hn => by
   rw [wrap_in (by omega) (by omega)]; omega
  have hrd : (Blk.cells T_lex_reader [(V.str (B l)), (V.int IntKind.i64 i)] Bool.false) = rd l i := rfl
  rw [B_size, hne, cond_false, if_pos hcond, Int.toNat_natCast, B_byte, hc, lex_letter_is, lex_digit_is, hrd, hwd]
  simp only [Option.bind_some, onRet_ret, asBool_bool, bl_mk]
  have hcells : ∀ (k : (Nat -> V) -> Option Res), Blk.asCells (List.getD [rd l i] 0 (Blk.cells T_n0 [] Bool.true)) T_lex_reader 2 k = k (fun j => [(V.str (B l)), (V.int IntKind.i64 i)].getD j .undef) := fun k => by
   show Blk.asCells (Blk.cells T_lex_reader [(V.str (B l)), (V.int IntKind.i64 i)] false) T_lex_reader 2 k = _
   exact asCells_cells _ _ _ rfl k
  rw [hcells, hcells]
  have hstr : ∀ (k : ByteArray -> Option Res), V.asStr ([(V.str (B l)), (V.int IntKind.i64 i)].getD 0 .undef) k = k (B l) := fun k => rfl
  have hint : ∀ (k : Int -> Option Res), V.asInt ([(V.str (B l)), (V.int IntKind.i64 i)].getD (0 + 1) .undef) IntKind.i64 k = k (i : Int) := fun k => asInt_int _ _ k
  simp only [hstr, hint, asStr_str, lex_isKey_is, Option.bind_some, onRet_ret, asBool_bool, B_size]
  have hnx : next (l.drop i) i = if lt c then (⟨if isKeyL (word (l.drop i)) then 3 else 1, word (l.drop i), 0, i⟩, (word (l.drop i)).length, decide ((word (l.drop i)).length <= 40))
    else if dg c then (⟨2, [], (parse (word (l.drop i))).1, i⟩, (word (l.drop i)).length, decide ((parse (word (l.drop i))).2 = 0))
    else (⟨4, sign (l.drop i), 0, i⟩, (sign (l.drop i)).length, !decide (sign (l.drop i) = [])) := by
   generalize hr : l.drop i = r at hd
   subst hd
   rfl
  show (bif lt c then _ else _) = _
  cases hlc : lt c with
  | true =>
   rw [hnx, hlc, cond_true, if_pos rfl, isKey_B', hwr _ hwl]
   have h40 := dec_len (word (l.drop i)).length 40
   rw [show ((40 : Nat) : Int) = (40 : Int) from rfl] at h40
   rw [h40]
   cases isKeyL (word (l.drop i)) <;> simp only [cond_true, cond_false, if_true, Bool.false_eq_true, if_false] <;> rfl
  | false =>
   rw [hnx, hlc, cond_false]
   simp only [Bool.false_eq_true, if_false]
   show (bif dg c then _ else _) = _
   cases hdc : dg c with
   | true =>
    rw [cond_true]
    simp only [if_true]
    have hwc : word (l.drop i) = c :: word (l.drop (i + 1)) := by
     rw [hd]; unfold word
     rw [List.takeWhile_cons, dg_inn hdc]; rfl
    have hp := num_Parse_dg c (word (l.drop (i + 1))) hdc (by rw [<- hwc]; omega)
    rw [<- hwc] at hp
    rw [hp, hwr _ hwl]
    unfold pairV
    simp only [Option.bind_some, onRet_ret]
    have htp : ∀ (a b : V) (k : (Nat -> V) -> Option Res), V.asTup (.tup [a, b]) 2 k = k (fun j => [a, b].getD j .undef) := fun a b k => asTup_tup _ _ rfl k
    rw [htp]
    have hi1 : ∀ (a b : Int) (k : Int -> Option Res), V.asInt ([V.int .i64 a, V.int .i64 b].getD 0 .undef) IntKind.i64 k = k a := fun a b k => asInt_int _ _ k
    have hi2 : ∀ (a b : Int) (k : Int -> Option Res), V.asInt ([V.int .i64 a, V.int .i64 b].getD (0 + 1) .undef) IntKind.i64 k = k b := fun a b k => asInt_int _ _ k
    rw [hi1, hi2]
    rfl
   | false =>
    rw [cond_false]
    simp only [Bool.false_eq_true, if_false]
    have h1 : (0 : Int) <= (i : Int) := by omega
    have h2 : i <= l.length ∧ l.length <= l.length := ⟨hi, Nat.le_refl _⟩
    rw [if_pos h1, if_pos h2, B_extract]
    have htake : (l.drop i).take (l.length - i) = l.drop i := List.take_of_length_le (by simp)
    have hsl := sign_le (l.drop i)
    rw [List.length_drop] at hsl
    rw [htake, lex_sign_is _ (by rw [List.length_drop]; omega)]
    simp only [Option.bind_some, onRet_ret, asStr_str, B_size]
    rw [hwr _ hsl, B_nil, B_dec]
    rfl
end Go.Proofs.YtmhnmelaodhemaaDoor
