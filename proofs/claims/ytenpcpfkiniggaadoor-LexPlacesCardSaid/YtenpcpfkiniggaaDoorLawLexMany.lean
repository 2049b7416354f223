/- LexMany: so many tokens are read; one more is refused at its place. Own work. -/
import Derived.Test.YtenpcpfkiniggaaDoorLawLexFirst
namespace Go.Proofs.YtenpcpfkiniggaaDoor
open Go Go.Proofs.Ab Go.Proofs.Px
set_option linter.unusedVariables false
set_option linter.unusedSimpArgs false

def rep (c : UInt8) : Nat → List UInt8
  | 0 => []
  | m + 1 => c :: 32 :: rep c m
theorem rep_length (c : UInt8) : ∀ m, (rep c m).length = 2 * m
  | 0 => rfl
  | m + 1 => by simp [rep, rep_length c m]; omega
theorem rep_add (c : UInt8) : ∀ m k, rep c m ++ rep c k = rep c (m + k)
  | 0, k => by simp [rep]
  | m + 1, k => by rw [show m + 1 + k = (m + k) + 1 by omega]; simp [rep, rep_add c m k]
theorem rep_take (c : UInt8) : ∀ n m, n ≤ m → (rep c m).take (2 * n) = rep c n
  | 0, m, _ => by simp [rep]
  | n + 1, 0, h => by omega
  | n + 1, m + 1, h => by
    rw [show 2 * (n + 1) = 2 * n + 1 + 1 by omega]
    simp [rep, rep_take c n m (by omega)]
/-- A byte that is a token ahead of a blank. -/
structure Lone (c : UInt8) : Prop where
  sk : ∀ r, sk false (c :: r) = c :: r
  next : ∀ r a, ∃ t : Tk, t.kind ≠ 0 ∧ next (c :: 32 :: r) a = (t, 1, true)
theorem lone_59 : Lone 59 := ⟨fun r => by simp [sk], fun r a => ⟨⟨4, [59], 0, a⟩, by simp, rfl⟩⟩
theorem lone_97 : Lone 97 := ⟨fun r => by simp [sk], fun r a => ⟨⟨1, [97], 0, a⟩, by simp, rfl⟩⟩
theorem sk_rep {c : UInt8} (hc : Lone c) : ∀ m, sk false (rep c m) = rep c m
  | 0 => rfl
  | m + 1 => hc.sk _
theorem scan_rep {c : UInt8} (hc : Lone c) (N : Nat) : ∀ (m f : Nat) (out : List Tk) (r : List UInt8), sk false r = rep c m → r.length < f → m + out.length = N → out.length ≤ 4000 →
    (4000 ≤ N → scanGo f (2 * N) out r = ([], 8000, 2)) ∧ (N < 4000 → ∃ toks : List Tk, scanGo f (2 * N) out r = (toks, 0, 0) ∧ toks.length = N + 1)
  | m, 0, out, r, _, hf, _, _ => by omega
  | 0, f + 1, out, r, hr, hf, hN, ho => by
    rw [scanGo_succ, hr]
    have hx : ∀ a, next (rep c 0) a = (⟨0, [], 0, a⟩, 0, true) := fun a => rfl
    rw [hx, if_neg (fun h : true = false => Bool.noConfusion h)]
    refine ⟨fun h4 => ?_, fun h4 => ?_⟩
    · rw [if_pos (by omega)]
      have : N = 4000 := by omega
      subst this
      rfl
    · rw [if_neg (by omega), if_pos rfl]
      exact ⟨_, rfl, by rw [List.length_append, List.length_singleton]; omega⟩
  | m + 1, f + 1, out, r, hr, hf, hN, ho => by
    rw [scanGo_succ, hr]
    obtain ⟨t, hk, hx⟩ := hc.next (rep c m) ((2 * N - (rep c (m + 1)).length : Nat) : Int)
    have hx' : Px.next (rep c (m + 1)) ((2 * N - (rep c (m + 1)).length : Nat) : Int) = (t, 1, true) := hx
    rw [hx', if_neg (fun h : true = false => Bool.noConfusion h)]
    by_cases h4 : out.length = 4000
    · rw [if_pos h4]
      refine ⟨fun _ => ?_, fun h => by omega⟩
      have : ((2 * N - (rep c (m + 1)).length : Nat) : Int) = 8000 := by rw [rep_length]; omega
      rw [this]
    · rw [if_neg h4, if_neg hk]
      have hl := sk_le false r
      rw [hr, rep_length] at hl
      have hd : (rep c (m + 1)).drop 1 = 32 :: rep c m := rfl
      rw [hd]
      refine scan_rep hc N m f (out ++ [t]) (32 :: rep c m) ?_ (by rw [List.length_cons, rep_length]; omega) (by rw [List.length_append, List.length_singleton]; omega) (by rw [List.length_append, List.length_singleton]; omega)
      have : sk false (32 :: rep c m) = sk false (rep c m) := by simp [sk]
      rw [this, sk_rep hc]
theorem ref01_Among_is (k n : Int) (hn : 0 < n) (hn2 : n ≤ 4611686018427387904) : den Sp ref01_Among.id [.int .i64 k, .int .i64 n] [] none = some ⟨.ret (.int .i64 (k % n)), [], none⟩ := by
  rw [ref01_Among.eq]
  have e1 : ¬ (n < 1) := by omega
  have e2 : ¬ (n = 0) := by omega
  rw [decide_eq_false e1, cond_false, if_neg e2]
  have h3 := Int.emod_nonneg k e2
  have h4 := Int.emod_lt_of_pos k hn
  have h5 := Int.tmod_eq_emod (a := k) (b := n)
  by_cases hc : 0 ≤ k ∨ n ∣ k
  · rw [if_pos hc] at h5
    have h5 : Int.tmod k n = k % n := by rw [h5]; simp
    have e3 : ¬ (Int.tmod k n < 0) := by omega
    rw [decide_eq_false e3, cond_false, h5]
  · rw [if_neg hc] at h5
    have e4 : ((n.natAbs : Nat) : Int) = n := by omega
    rw [e4] at h5
    have e3 : Int.tmod k n < 0 := by omega
    rw [decide_eq_true e3, cond_true, wrap_in (by omega) (by omega)]
    have : Int.tmod k n + n = k % n := by omega
    rw [this]
/-- The tail of the law: what is asked of the scan. -/
theorem many_scan {c : UInt8} (hc : Lone c) (N : Nat) (hN : N < 5000) : (4000 ≤ N → scan (rep c N) = ([], 8000, 2)) ∧ (N < 4000 → ∃ toks : List Tk, scan (rep c N) = (toks, 0, 0) ∧ toks.length = N + 1) := by
  have hl := rep_length c N
  have hs : scan (rep c N) = scanGo (2 * N + 1) (2 * N) [] (rep c N) := by unfold scan; rw [if_neg (by omega), hl]
  rw [hs]
  exact scan_rep hc N N (2 * N + 1) [] (rep c N) (sk_rep hc N) (by omega) (by simp) (by simp)
theorem many_loop (N : Nat) (hN : N < 5000) : ∀ (k M : Nat), M + k = 5006 → M ≤ 5002 → (M < N → M + 4 ≤ 5002) → law02_LexMany.L1_1_1_1_1_0_0 (N : Int) (B (rep 59 M)) = some ⟨.ret (.bool true), [], none⟩ ∧ law02_LexMany.L1_1_1_1_1_0_0v1 (N : Int) (B (rep 97 M)) = some ⟨.ret (.bool true), [], none⟩ := by
  intro k
  induction k using Nat.strongRecOn with
  | _ k ih =>
    intro M hk hM hM2
    have hw : IntKind.wrap IntKind.i64 ((2 : Int) * (N : Int)) = ((2 * N : Nat) : Int) := by rw [wrap_in (by omega) (by omega)]; omega
    have hl1 := rep_length 59 M
    have hl2 := rep_length 97 M
    by_cases h : M < N
    · have hnext := ih (k - 4) (by omega) (M + 4) (by omega) (hM2 h) (fun h => by omega)
      have step : ∀ c : UInt8, rep c M ++ [c, 32] ++ [c, 32] ++ [c, 32] ++ [c, 32] = rep c (M + 4) := fun c => by
        have : [c, 32] = rep c 1 := rfl
        rw [this, rep_add, rep_add, rep_add, rep_add]
      have hb : ∀ c : UInt8, ByteArray.mk #[c, 32] = B [c, 32] := fun c => rfl
      have hcnd : ((2 * M : Nat) : Int) < ((2 * N : Nat) : Int) := by omega
      constructor
      · rw [law02_LexMany.L1_1_1_1_1_0_0_eq, hw, B_size, hl1, decide_eq_true hcnd, cond_true, hb]
        simp only [B_append, B_size, List.length_append, hl1, List.length_cons, List.length_nil]
        rw [if_pos (by show _ ≤ 1099511627776; omega), if_pos (by show _ ≤ 1099511627776; omega), if_pos (by show _ ≤ 1099511627776; omega), if_pos (by show _ ≤ 1099511627776; omega), step]
        exact hnext.1
      · rw [law02_LexMany.L1_1_1_1_1_0_0v1_eq, hw, B_size, hl2, decide_eq_true hcnd, cond_true, hb]
        simp only [B_append, B_size, List.length_append, hl2, List.length_cons, List.length_nil]
        rw [if_pos (by show _ ≤ 1099511627776; omega), if_pos (by show _ ≤ 1099511627776; omega), if_pos (by show _ ≤ 1099511627776; omega), if_pos (by show _ ≤ 1099511627776; omega), step]
        exact hnext.2
    · have hcnd : ¬ (((2 * M : Nat) : Int) < ((2 * N : Nat) : Int)) := by omega
      constructor
      · rw [law02_LexMany.L1_1_1_1_1_0_0_eq]
        have e : decide ((((ByteArray.size (B (rep 59 M))) : Nat) : Int) < IntKind.wrap IntKind.i64 ((2 : Int) * (N : Int))) = false := by rw [hw, B_size, hl1]; exact decide_eq_false hcnd
        rw [e, cond_false]
        rw [hw, Int.toNat_natCast, B_size, hl1, if_pos (by omega), if_pos (by omega), B_extract, List.drop_zero, Nat.sub_zero, rep_take 59 N M (by omega), lex_Scan_is _ (by rw [rep_length]; omega), law02_known_is]
        obtain ⟨g1, g2⟩ := many_scan lone_59 N hN
        by_cases h4 : 4000 ≤ N
        · rw [g1 h4]
          unfold scanV
          simp only [Option.bind_some, onRet_ret]
          rw [tup3, g3_0, g3_1, g3_2]
          have e : ((N : Int) ≥ 4000) := by omega
          rw [decide_eq_true e]
          rfl
        · obtain ⟨toks, g3, g4⟩ := g2 (by omega)
          rw [g3]
          unfold scanV
          simp only [Option.bind_some, onRet_ret]
          rw [tup3, g3_0, g3_1, g3_2]
          have e : ¬ ((N : Int) ≥ 4000) := by omega
          have e2 : (toks.map Tk.v).length = N + 1 := by rw [List.length_map]; exact g4
          have e3 : IntKind.wrap IntKind.i64 ((N : Int) + 1) = ((N + 1 : Nat) : Int) := wrap_nat (by omega)
          rw [decide_eq_false e, e2, e3]
          have e4 : (((N + 1 : Nat) : Int) == ((N + 1 : Nat) : Int)) = true := beq_self_eq_true _
          simp only [cond_false, cond_true, e4, asBool_bool, beq_self_eq_true]
      · rw [law02_LexMany.L1_1_1_1_1_0_0v1_eq]
        have e : decide ((((ByteArray.size (B (rep 97 M))) : Nat) : Int) < IntKind.wrap IntKind.i64 ((2 : Int) * (N : Int))) = false := by rw [hw, B_size, hl2]; exact decide_eq_false hcnd
        rw [e, cond_false]
        rw [hw, Int.toNat_natCast, B_size, hl2, if_pos (by omega), if_pos (by omega), B_extract, List.drop_zero, Nat.sub_zero, rep_take 97 N M (by omega), lex_Scan_is _ (by rw [rep_length]; omega), law02_known_is]
        obtain ⟨g1, g2⟩ := many_scan lone_97 N hN
        by_cases h4 : 4000 ≤ N
        · rw [g1 h4]
          unfold scanV
          simp only [Option.bind_some, onRet_ret]
          rw [tup3, g3_0, g3_1, g3_2]
          have e : ((N : Int) ≥ 4000) := by omega
          rw [decide_eq_true e]
          rfl
        · obtain ⟨toks, g3, g4⟩ := g2 (by omega)
          rw [g3]
          unfold scanV
          simp only [Option.bind_some, onRet_ret]
          rw [tup3, g3_0, g3_1, g3_2]
          have e : ¬ ((N : Int) ≥ 4000) := by omega
          have e2 : (toks.map Tk.v).length = N + 1 := by rw [List.length_map]; exact g4
          have e3 : IntKind.wrap IntKind.i64 ((N : Int) + 1) = ((N + 1 : Nat) : Int) := wrap_nat (by omega)
          rw [decide_eq_false e, e2, e3]
          have e4 : (((N + 1 : Nat) : Int) == ((N + 1 : Nat) : Int)) = true := beq_self_eq_true _
          simp only [cond_false, cond_true, e4, asBool_bool, beq_self_eq_true]
theorem lexMany_den (n : Int) (hn : (Lit.int .i64 n).wf = true) (b : Bool) : den Sp law02_LexMany.id [.int .i64 n, .bool b] [] none = some ⟨.ret (.bool true), [], none⟩ := by
  rw [law02_LexMany.eq, ref01_Among_is n 5000 (by omega) (by omega)]
  simp only [Option.bind_some, onRet_ret, asInt_int]
  have h1 := Int.emod_nonneg n (show (5000 : Int) ≠ 0 by omega)
  have h2 := Int.emod_lt_of_pos n (show (0 : Int) < 5000 by omega)
  obtain ⟨N, hN⟩ : ∃ N : Nat, n % 5000 = (N : Int) := ⟨(n % 5000).toNat, by omega⟩
  rw [hN]
  have hl := many_loop N (by omega) 5006 0 (by omega) (by omega) (by omega)
  cases b with
  | true => exact hl.1
  | false => exact hl.2
end Go.Proofs.YtenpcpfkiniggaaDoor
