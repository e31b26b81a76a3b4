/- The walks of package token, first part: bytes, keywords, and the library's functions that it calls. -/
import Derived.Test.YtlnjfkfojkgiiaaGreatDoorShelf
import Derived.Test.YtlnjfkfojkgiiaaGreatDoorK12
open Go Go.aZ Go.Th Go.Proofs Tryz
set_option maxRecDepth 10000
set_option maxHeartbeats 4000000
namespace Go.Proofs.YtlnjfkfojkgiiaaGreatDoor
attribute [local irreducible] wpList Code.wp ah bodyPost Go.aZ.Ends Exit.then Exit.inBlock dJ Wq Kq
instance : Ext prog 119 Extern.BytealgIndexByte.indexByte := ⟨_, func119, kR, kR, kR, kR⟩
theorem T4 (g : ab) (s : Bytes) (c : UInt8) : Pure prog 92 [str s, .int .u8 c.toNat] g (.int .i64 (gg c s)) := by
 refine aw func92 rfl ntmps92 rfl fun E hE => ?_
 refine wz.a.a.c.b.a.c.z ?_
 refine cX rfl (uF rfl (fun w => T5 s c w)) ?_
 refine wz.i.b.a.z ?_
 exact ao [] rfl rfl sM ⟨rfl, rfl, rfl⟩
theorem KS (g : ab) (s : Bytes) (c : UInt8) : Pure prog 61 [str s, .int .u8 c.toNat] g (.int .i64 (gg c s)) := by
 refine aw func61 rfl ntmps61 rfl fun E hE => ?_
 refine wz.a.a.c.b.a.c.z ?_
 refine aO rfl rfl (T4 g s c) ?_
 refine wz.i.b.a.z ?_
 exact ao [] rfl rfl sM ⟨rfl, rfl, rfl⟩
theorem KT (g : ab) (c : UInt8) : Pure prog 93 [.int .u8 c.toNat] g (.bool (digit c)) := by
 refine aw func93 rfl ntmps93 rfl fun E hE => ?_
 repeat' (first | refine sT ?_ | refine bw rfl rfl (fun h => ?_) (fun h => ?_) | refine j_ rfl rfl (fun h => ?_) (fun h => ?_) | refine an rfl (fun h => ?_) (fun h => ?_) | refine fS rfl (fun h => ?_) (fun h => ?_))
 all_goals exact ao [] rfl rfl sM ⟨vb (by simp [digit]; omega), rfl, rfl⟩
theorem KU (g : ab) (c : UInt8) : Pure prog 62 [.int .u8 c.toNat] g (.bool (inner c)) := by
 refine aw func62 rfl ntmps62 rfl fun E hE => ?_
 repeat' (first | refine sT ?_ | refine bw rfl rfl (fun h => ?_) (fun h => ?_) | refine j_ rfl rfl (fun h => ?_) (fun h => ?_) | refine an rfl (fun h => ?_) (fun h => ?_) | refine fS rfl (fun h => ?_) (fun h => ?_))
 all_goals first
 | exact ao [] rfl rfl sM ⟨vb (by simp [inner, lower, upper]; omega), rfl, rfl⟩
 | (refine aO rfl rfl (KT g c) ?_
    repeat' (first | refine sT ?_ | refine bw rfl rfl (fun h => ?_) (fun h => ?_) | refine j_ rfl rfl (fun h => ?_) (fun h => ?_) | refine an rfl (fun h => ?_) (fun h => ?_) | refine fS rfl (fun h => ?_) (fun h => ?_))
    all_goals exact ao [] rfl rfl sM ⟨vb (by simp [inner, lower, upper, *]; try omega), rfl, rfl⟩)
theorem T6 (g : ab) (s : Bytes) : Pure prog 94 [str s] g (.bool (mD s)) := by
 refine aw func94 rfl ntmps94 rfl fun E hE => ?_
 repeat' (first | refine sT ?_ | refine bw rfl rfl (fun h => ?_) (fun h => ?_) | refine j_ rfl rfl (fun h => ?_) (fun h => ?_) | refine an rfl (fun h => ?_) (fun h => ?_) | refine fS rfl (fun h => ?_) (fun h => ?_))
 all_goals first | contradiction | exact ao [] rfl rfl sM ⟨vb (by simp [mD, qR, *]), rfl, rfl⟩
def digits : Bytes := [48, 49, 50, 51, 52, 53, 54, 55, 56, 57]
theorem T7 (c : UInt8) : digits.contains c = digit c := by
 rw [Bool.eq_iff_iff]
 simp only [digits, digit, List.contains_iff_mem, List.mem_cons, List.not_mem_nil, or_false, Bool.and_eq_true, decide_eq_true_eq, ← UInt8.toNat_inj]
 simp
 omega
theorem dropWhile_nil {p : UInt8 → Bool} : ∀ l : Bytes, l.dropWhile p = [] ↔ l.all p = true
 | [] => by simp
 | x :: r => by
  have := dropWhile_nil (p := p) r
  cases hx : p x <;> simp [List.dropWhile, hx, this]
theorem KV {p : UInt8 → Bool} : ∀ l : Bytes, (l.dropWhile p).all p = true ↔ l.all p = true
 | [] => by simp
 | x :: r => by
  have := KV (p := p) r
  cases hx : p x <;> simp [List.dropWhile, hx] at this ⊢
  exact this
theorem KX (s : Bytes) : Lib.trimS s digits = [] ↔ s.all digit = true := by
 have hd : (fun c => digits.contains c) = digit := funext T7
 unfold Lib.trimS Lib.trimLeftS Lib.trimRightS
 rw [hd]
 rw [dropWhile_nil, List.all_reverse, KV, List.all_reverse]
theorem T8 (g : ab) (s : Bytes) (hs : s.length ≤ 9223372036854775807) : Pure prog 95 [str s, str digits] g (str (Lib.trimS s digits)) :=
 KY fun w _ => Tryz.strings_Trim_laid ⟨⟨s⟩⟩ ⟨⟨digits⟩⟩ w hs dC (ascii_of_all dC)
theorem T9 {s : Bytes} (h0 : 0 < s.length) (hall : s.all inner = true) : kindOf s =
  if mD s then (4 : Int) else if digit s[0] then (if 9 < s.length ∨ s[0].toNat = 48 ∧ 1 < s.length ∨ ¬ s.all digit then (0 : Int) else 3) else if 12 < s.length ∨ s[0].toNat = 95 then (0 : Int) else if 97 ≤ s[0].toNat then (1 : Int) else 2 := by
 have dW : inner s[0] = true := List.all_eq_true.1 hall _ (List.getElem_mem h0)
 have hne : s.isEmpty = false := by cases s with
  | nil => simp at h0
  | cons => rfl
 have hw : isWord s = true := by simp [isWord, hall, hne]
 have hm : l7 s = false := by
  simp only [l7, Bool.or_eq_false_iff, decide_eq_false_iff_not, List.any_eq_false, decide_eq_true_eq]
  refine ⟨fun h => ?_, fun c hc h => ?_⟩
  ·subst h; revert hall; decide
  ·subst h
   have : ∀ c ∈ kA, ¬ inner c = true := by decide
   exact this c hc (by simpa using hall)
 simp only [kindOf, isLower, isUpper, nr, hw, hm, Fw h0, hne]
 split
 ·rfl
 ·rename_i hk
  simp only [inner, lower, upper, digit, Bool.or_eq_true, Bool.and_eq_true, decide_eq_true_eq] at dW
  by_cases hd : digit s[0] = true
  ·have pJ := hd
   simp only [digit, Bool.and_eq_true, decide_eq_true_eq] at pJ
   have hl : lower s[0] = false := by simp [lower]; omega
   have hu : upper s[0] = false := by simp [upper]; omega
   simp only [hl, hu, hd]
   by_cases hA : s.all digit = true
   ·simp [hA]
    by_cases h9 : s.length ≤ 9 <;> by_cases h1 : s[0].toNat = 48 <;> by_cases h2 : 1 < s.length <;> simp [h9, h1, h2] <;> (repeat split) <;> omega
   ·simp only [hA]; simp
  ·have pJ := hd
   simp only [digit, Bool.and_eq_true, decide_eq_true_eq] at pJ
   have lD : s.all digit = false := by
    rw [Bool.eq_false_iff]; intro h; exact hd (List.all_eq_true.1 h _ (List.getElem_mem h0))
   have c_ : mD s = false := by simpa using hk
   by_cases hl : lower s[0] = true
   ·have kB := hl
    simp only [lower, Bool.and_eq_true, decide_eq_true_eq] at kB
    have hu : upper s[0] = false := by simp [upper]; omega
    simp [hl, hu, hd, lD, c_]
    by_cases wK : s.length ≤ 12 <;> simp [wK] <;> (repeat split) <;> omega
   ·have kB := hl
    simp only [lower, Bool.and_eq_true, decide_eq_true_eq] at kB
    by_cases hu : upper s[0] = true
    ·have gq := hu
     simp only [upper, Bool.and_eq_true, decide_eq_true_eq] at gq
     simp [hl, hu, hd, lD, c_]
     by_cases wK : s.length ≤ 12 <;> simp [wK] <;> (repeat split) <;> omega
    ·have gq := hu
     simp only [upper, Bool.and_eq_true, decide_eq_true_eq] at gq
     simp [hl, hu, hd, lD, c_]
     (repeat split) <;> omega
theorem KZ (g : ab) (s : Bytes) (hs : s.length ≤ 9223372036854775807) (h0 : 0 < s.length) (hall : s.all inner = true) : Pure prog 63 [str s] g (.int .i64 (kindOf s)) := by
 have hk := T9 h0 hall
 refine aw func63 rfl ntmps63 rfl fun E hE => ?_
 refine wz.a.c.b.a.c.z ?_
 refine nd (j := 0) rfl rfl rfl rfl h0 ?_
 refine wz.a.c.p.e.b.a.z ?_
 refine aO rfl rfl (T6 g s) ?_
 refine wz.b.a.z ?_
 refine fS rfl (fun bI => ?_) (fun bI => ?_)
 ·refine wz.l.x.i.b.a.c.z ?_
  exact ao [] rfl rfl sM ⟨vi (by simp [hk, bI]), rfl, rfl⟩
 refine wz.a.c.z ?_
 refine aO rfl rfl (KT g _) ?_
 refine wz.b.a.z ?_
 refine fS rfl (fun hd => ?_) (fun hd => ?_)
 ·repeat' (first | refine sT ?_ | refine bw rfl rfl (fun h => ?_) (fun h => ?_) | refine j_ rfl rfl (fun h => ?_) (fun h => ?_) | refine an rfl (fun h => ?_) (fun h => ?_) | refine fS rfl (fun h => ?_) (fun h => ?_))
  ·exact ao [] rfl rfl sM ⟨vi (by rw [hk, if_neg (by simp [bI]), if_pos hd, if_pos]; omega), rfl, rfl⟩
  ·exact ao [] rfl rfl sM ⟨vi (by rw [hk, if_neg (by simp [bI]), if_pos hd, if_pos]; omega), rfl, rfl⟩
  all_goals
   refine aO rfl rfl (T8 g s hs) ?_
   repeat (refine sT ?_)
   refine an rfl (fun ht => ?_) (fun ht => ?_)
   ·skip
    repeat (refine sT ?_)
    exact ao [] rfl rfl sM ⟨vi (by rw [hk, if_neg (by simp [bI]), if_pos hd, if_pos]; exact .inr (.inr (fun hx => ht ((KX s).2 hx)))), rfl, rfl⟩
   ·skip
    rw [ne_eq, Decidable.not_not, KX] at ht
    repeat (refine sT ?_)
    exact ao [] rfl rfl sM ⟨vi (by rw [hk, if_neg (by simp [bI]), if_pos hd, if_neg]; simp only [ht, not_true_eq_false, or_false]; omega), rfl, rfl⟩
 ·repeat' (first | refine sT ?_ | refine bw rfl rfl (fun h => ?_) (fun h => ?_) | refine j_ rfl rfl (fun h => ?_) (fun h => ?_) | refine an rfl (fun h => ?_) (fun h => ?_) | refine fS rfl (fun h => ?_) (fun h => ?_))
  all_goals exact ao [] rfl rfl sM ⟨vi (by rw [hk, if_neg (by simp [bI]), if_neg (by simp [hd])]; (repeat split) <;> omega), rfl, rfl⟩
end Go.Proofs.YtlnjfkfojkgiiaaGreatDoor
namespace Go.Proofs.YtlnjfkfojkgiiaaGreatDoor
attribute [local irreducible] wpList Code.wp ah bodyPost Go.aZ.Ends Exit.then Exit.inBlock dJ Wq Kq
theorem T_ (g : ab) (s p : Bytes) : Pure prog 96 [str s, str p] g (.bool (decide (p.length ≤ s.length ∧ s.take p.length = p))) := by
 refine aw func96 rfl ntmps96 rfl fun E hE => ?_
 refine wz.a.a.AI.a.AI.a.c.b.a.c.z ?_
 refine bw rfl rfl (fun h => ?_) (fun h => ?_)
 ·have h' : p.length ≤ s.length := by omega
  refine wz.k.AI.k.u.u.z ?_
  refine nW (p := 0) (q := p.length) rfl rfl rfl ⟨_, _, rfl, rfl⟩ oM oM ?_
  refine wz.i.b.a.a.u.u.z ?_
  exact ao [] rfl rfl sM ⟨vb (by simp [h']), rfl, rfl⟩
 ·have h' : ¬ p.length ≤ s.length := by omega
  refine wz.i.b.a.a.h.h.h.h.h.h.z ?_
  exact ao [] rfl rfl sM ⟨vb (by simp [h']), rfl, rfl⟩
theorem Ua (g : ab) (s p : Bytes) : Pure prog 64 [str s, str p] g (.bool (decide (p.length ≤ s.length ∧ s.take p.length = p))) := by
 refine aw func64 rfl ntmps64 rfl fun E hE => ?_
 refine wz.a.a.c.b.a.c.z ?_
 refine aO rfl rfl (T_ g s p) ?_
 refine wz.i.b.a.z ?_
 exact ao [] rfl rfl sM ⟨rfl, rfl, rfl⟩
theorem K4 : ∀ s : Bytes, fR s = if gg 10 s < 0 then s.length else (gg 10 s).toNat
 | [] => rfl
 | x :: r => by
  have ih := K4 r
  have h0 : (10 : UInt8).toNat = 10 := rfl
  simp only [fR, gg, ← UInt8.toNat_inj, h0]
  by_cases hx : x.toNat = 10
  ·simp [hx]
  ·rw [if_neg hx, if_neg hx]
   rcases wL 10 r with ⟨h1, _⟩ | ⟨h1, h2⟩
   ·rw [h1] at ih ⊢; simpa using ih
   ·rw [if_neg oM] at ih ⊢
    rw [if_neg oM]
    omega
theorem K5 {c : UInt8} : ∀ {s : Bytes}, 0 ≤ gg c s → c ∈ s
 | [], h => by simp [gg] at h
 | x :: r, h => by
  simp only [gg] at h
  by_cases hx : x = c
  ·simp [hx]
  ·rw [if_neg hx] at h
   have : 0 ≤ gg c r := by
    by_cases h2 : gg c r < 0
    ·rw [if_pos h2] at h; omega
    ·omega
   exact List.mem_cons_of_mem _ (K5 this)
theorem K6 : ∀ s : Bytes, (s.take (i_ s)).all inner = true
 | [] => rfl
 | c :: r => by
  have ih := K6 r
  simp only [i_]
  cases hc : inner c
  ·simp
  ·simp only [if_true, List.take_succ_cons, List.all_cons, hc, Bool.true_and]; exact ih
theorem K7 {s : Bytes} {i : Nat} (h : i < s.length) (hn : inner s[i] = true) : ((s.drop i).take (cW (s.drop i))).all inner = true := by
 rw [E5 h hn, drop_cons h, List.take_succ_cons, List.all_cons, hn, Bool.true_and]
 exact K6 _
theorem K8 {s : Bytes} {i : Nat} {x y : UInt8} : (s.drop i).take 2 = [x, y] ↔ ∃ h : i + 1 < s.length, s[i] = x ∧ s[i + 1] = y := by
 constructor
 ·intro h
  have hl := congrArg List.length h
  simp at hl
  have h1 : i + 1 < s.length := by omega
  rw [drop_cons oM, drop_cons h1] at h
  simp only [List.take_succ_cons, List.take_zero, List.cons.injEq, and_true] at h
  exact ⟨h1, h⟩
 ·rintro ⟨h1, h2, h3⟩
  rw [drop_cons oM, drop_cons h1, h2, h3]; rfl
theorem Ub {c : UInt8} (hc : inner c = false) : kindOf [c] = if gg c kA < 0 then 0 else 5 := by
 have h1 : mD [c] = false := by simp [mD, qR]
 have h2 : isWord [c] = false := by simp [isWord, hc]
 have h3 : digit c = false := by
  simp only [inner, Bool.or_eq_false_iff] at hc
  exact hc.1.2
 have h4 : l7 [c] = decide (c ∈ kA) := by
  rw [Bool.eq_iff_iff]
  simp only [l7, Bool.or_eq_true, decide_eq_true_eq, List.any_eq_true]
  constructor
  ·rintro (h | ⟨x, hx, h⟩)
   ·simp at h
   ·have : c = x := by simpa using h
    subst this; exact hx
  ·intro h; exact .inr ⟨c, h, rfl⟩
 simp only [kindOf, h1, isLower, isUpper, h2, nr, h4]
 simp [h3]
 rcases wL c kA with ⟨h5, h6⟩ | ⟨h5, _⟩
 ·rw [h5, if_neg (fun h => h6 c h rfl), if_pos oM]
 ·rw [if_pos (K5 h5), if_neg oM]
theorem K9 (g : ab) (s : Bytes) (hs : s.length ≤ 9223372036854775807) : aZ.Spec prog 25 [str s] g [] (Kf 118 s g) := by
 refine aw func25 rfl ntmps25 rfl fun E hE => ?_
 refine wz.a.c.z ?_
 refine aj rfl (fun b => ?_)
 refine wz.b.a.AI.a.c.e.b.z ?_
 refine an rfl (fun E1 => ?_) (fun E1 => ?_)
 ·refine wz.l.i.b.Br.a.K.c.z ?_
  refine cB [] rfl (.tmp rfl) (ay 0 rfl rfl rL) sM ⟨rfl, ?_⟩
  have : 4000 < s.length := by omega
  simp [scan, this]
 ·have hle : s.length ≤ 4000 := by omega
  refine wz.p.b.a.c.e.b.a.c.d.j.z ?_; refine fW 118 3 ?_
  refine aX (ι := Nat × List Tok × Value) (fun p => [(0, str s), (3, ptr b 0), (4, p.2.2), (5, .int .i64 p.1)]) (fun _ => g)
   (fun p => [.row 118 3 p.2.2 p.2.1.length (p.2.1.flatMap jM), .ae b 33 [.int .i64 0, .int .i64 0]])
   (fun p => p.1 ≤ s.length ∧ p.2.1.length ≤ p.1 ∧ ed 0 (s.drop 0) = pre p.2.1 (ed p.1 (s.drop p.1))) (fun p => s.length - p.1) (0, [], .slice none 0 0) ⟨sM, sM, by simp [pre_nil]⟩ ⟨rfl, rfl, rfl, rfl, trivial⟩ rfl rfl ?_
  rintro ⟨i, l, v⟩ ⟨hi, hl, hinv⟩
  simp only at hi hl hinv
  try dsimp only
  refine wz.b.a.AI.a.a.c.e.z ?_
  refine an rfl (fun hlt => ?_) (fun hlt => ?_)
  ·have af : i < s.length := by omega
   have hpc : fR (s.drop i) ≤ s.length - i := by have := Fx (s.drop i); rwa [List.length_drop] at this
   refine wz.a.a.c.p.d.j.z ?_
   refine nd (j := i) rfl rfl rfl rfl af ?_
   refine wz.b.a.a.a.z ?_
   refine zu [(0, str s), (3, ptr b 0), (4, v), (5, .int .i64 i), (7, .int .i64 (cW (s.drop i) : Nat)), (8, .int .i64 (kindOf ((s.drop i).take (cW (s.drop i)))))] (ee s[i] = false ∧ s[i].toNat ≠ 35) ?_ ?_
   ·rintro ⟨hw, hc⟩
    have l4 := E2 (s.drop i)
    have Tb : 1 ≤ cW (s.drop i) := by rw [drop_cons af]; exact wv _ _
    rw [List.length_drop] at l4
    refine wz.b.a.a.c.e.z ?_
    refine an rfl (fun hk => ?_) (fun hk => ?_)
    ·refine wz.l.x.l.x.l.i.b.Cj.a.K.a.c.z ?_
     refine cB [] rfl (.tmp rfl) (ay 1 rfl rfl rL) sM ⟨rfl, ?_⟩
     rw [wy hle, hinv, Kg af hw hc hk]
     exact ⟨rfl, rfl⟩
    ·refine wz.E.a.a.a.a.a.a.c.d.j.z ?_
     skip
     refine nW (p := i) (q := i + cW (s.drop i)) rfl rfl ⟨_, _, rfl, rfl⟩ ⟨_, _, rfl, oM⟩ oM oM ?_
     rw [wx]
     refine wz.K.a.z ?_
     refine bu rfl rfl rL rL rL rL rL (fun b2 => ?_)
     refine cV 1 0 rfl rfl rfl rfl rfl rL rL rfl mL oM (fun v' _ => ?_)
     refine wz.d.y.N.a.E.a.a.r.b.a.z ?_; refine fF (own' := [_, _]) (List.sublist_cons_self _ _) ?_
     refine aM (i + cW (s.drop i), l ++ [⟨kindOf ((s.drop i).take (cW (s.drop i))), (s.drop i).take (cW (s.drop i)), i⟩], v') ⟨nM, nM, ?_⟩ nM ⟨rfl, rfl, rfl, rfl, trivial⟩ rfl ?_
     ·simp only
      rw [hinv, Kh af hw hc hk]
     ·simp [jM, dO]
   ·intro K hK
    have zA : ee s[i] = true → (32 = s[i].toNat ∨ 9 = s[i].toNat ∨ 13 = s[i].toNat ∨ 10 = s[i].toNat) := fun h => by simp [ee] at h; omega
    refine wz.b.a.a.a.c.e.e.p.e.p.e.p.e.p.e.p.e.p.z ?_
    refine an rfl (fun hc => ?_) (fun hc => ?_)
    ·have iA : s[i].toNat = 35 := by omega
     have hw : ee s[i] = false := by simp [ee]; omega
     have hcm := E3 af hw iA
     have Td : 1 ≤ fR (s.drop i) := by rw [drop_cons af]; exact zv _ iA
     refine wz.a.a.c.d.D.m.m.C.z ?_
     refine nW (p := i) (q := s.length) rfl rfl ⟨_, _, rfl, rfl⟩ rfl oM oM ?_
     rw [List.take_length]
     refine aO rfl rfl (KS g _ 10) ?_
     have Fy := K4 (s.drop i)
     rw [List.length_drop] at Fy
     refine wz.b.a.a.c.b.a.z ?_
     refine an rfl (fun sw => ?_) (fun sw => ?_)
     ·rw [if_pos sw] at Fy
      refine wz.d.D.m.U.m.U.m.U.m.U.m.C.b.a.E.a.a.c.e.d.y.N.a.AE.a.AI.a.r.z ?_
      exact aM (i + fR (s.drop i), l, v) ⟨nM, nM, by simp only; rw [hinv, hcm]⟩ nM ⟨rfl, rfl, rfl, by rw [show ((i + fR (s.drop i) : Nat) : Int) = i + ((s.length : Nat) - (i : Nat)) by omega]; rfl, trivial⟩ rfl rfl
     ·rw [if_neg sw] at Fy
      refine wz.d.D.m.U.m.U.m.U.m.U.m.C.b.a.E.a.a.c.e.d.y.j.z ?_
      exact aM (i + fR (s.drop i), l, v) ⟨nM, nM, by simp only; rw [hinv, hcm]⟩ nM ⟨rfl, rfl, rfl, by rw [show ((i + fR (s.drop i) : Nat) : Int) = i + gg 10 (s.drop i) by omega]; rfl, trivial⟩ rfl rfl
    ·have iA : s[i].toNat ≠ 35 := by omega
     refine wz.b.a.a.a.c.e.e.d.j.z ?_
     refine an rfl (fun w1 => ?_) (fun w1 => ?_)
     ·have hw : ee s[i] = true := by simp [ee]; omega
      refine wz.d.j.z ?_
      refine an rfl (fun _ => ?_) (fun hx => absurd w1 hx)
      refine wz.d.D.m.U.m.U.m.U.m.U.m.C.b.a.E.a.a.c.e.d.D.m.U.m.m.C.z ?_
      exact aM (i + 1, l, v) ⟨nM, nM, by simp only; rw [hinv, qK af hw]⟩ nM ⟨rfl, rfl, rfl, rfl, trivial⟩ rfl rfl
     refine wz.b.a.a.a.c.z ?_
     refine an rfl (fun w2 => ?_) (fun w2 => ?_)
     ·have hw : ee s[i] = true := by simp [ee]; omega
      refine wz.d.j.z ?_
      refine an rfl (fun _ => ?_) (fun hx => absurd w2 hx)
      refine wz.d.D.m.U.m.U.m.U.m.U.m.C.b.a.E.a.a.c.e.d.D.m.U.m.m.C.z ?_
      exact aM (i + 1, l, v) ⟨nM, nM, by simp only; rw [hinv, qK af hw]⟩ nM ⟨rfl, rfl, rfl, rfl, trivial⟩ rfl rfl
     refine wz.b.a.a.a.c.z ?_
     refine an rfl (fun w3 => ?_) (fun w3 => ?_)
     ·have hw : ee s[i] = true := by simp [ee]; omega
      refine wz.d.j.z ?_
      refine an rfl (fun _ => ?_) (fun hx => absurd w3 hx)
      refine wz.d.D.m.U.m.U.m.U.m.U.m.C.b.a.E.a.a.c.e.d.D.m.U.m.m.C.z ?_
      exact aM (i + 1, l, v) ⟨nM, nM, by simp only; rw [hinv, qK af hw]⟩ nM ⟨rfl, rfl, rfl, rfl, trivial⟩ rfl rfl
     refine wz.b.a.a.a.r.z ?_
     refine an rfl (fun w4 => ?_) (fun w4 => ?_)
     ·have hw : ee s[i] = true := by simp [ee]; omega
      refine wz.d.D.m.U.m.U.m.U.m.U.m.C.b.a.E.a.a.c.e.d.D.m.U.m.m.C.z ?_
      exact aM (i + 1, l, v) ⟨nM, nM, by simp only; rw [hinv, qK af hw]⟩ nM ⟨rfl, rfl, rfl, rfl, trivial⟩ rfl rfl
     have hw : ee s[i] = false := by simp [ee]; omega
     refine wz.a.c.e.d.j.z ?_
     refine aO rfl rfl (KU g _) ?_
     refine wz.b.a.z ?_
     refine fS rfl (fun dW => ?_) (fun dW => ?_)
     ·have kU := E5 af dW
      have Uc := Fz (s.drop (i + 1))
      rw [List.length_drop] at Uc
      refine wz.p.e.e.d.D.m.U.m.U.m.m.C.z ?_
      refine aX (ι := Nat) (fun n => [(0, str s), (3, ptr b 0), (4, v), (5, .int .i64 i), (7, .int .i64 n)]) (fun _ => g) (fun _ => [.row 118 3 v l.length (l.flatMap jM), .ae b 33 [.int .i64 0, .int .i64 0]])
       (fun n => 1 ≤ n ∧ i + n ≤ s.length ∧ n + i_ (s.drop (i + n)) = 1 + i_ (s.drop (i + 1))) (fun n => s.length - n) 1 ⟨Nat.le_refl _, oM, rfl⟩ ⟨rfl, rfl, rfl, rfl, rfl, trivial⟩ rfl rfl ?_
      rintro n ⟨l8, nt, hcm⟩
      refine wz.a.a.AI.a.E.a.a.c.e.z ?_
      refine bw rfl rfl (fun hj => ?_) (fun hj => ?_)
      ·have dr : i + n < s.length := by omega
       refine wz.k.E.k.u.u.u.z ?_
       refine nd (j := i + n) rfl rfl rfl oM dr ?_
       refine wz.k.z ?_
       refine aO rfl rfl (KU g _) ?_
       refine wz.b.a.z ?_
       refine fS rfl (fun hn => ?_) (fun hn => ?_)
       ·have bG := Ki dr hn
        refine wz.d.y.N.a.E.a.r.p.d.j.z ?_
        exact aM (n + 1) ⟨oM, oM, by rw [← Nat.add_assoc]; omega⟩ oM ⟨rfl, rfl, rfl, rfl, rfl, trivial⟩ rfl rfl
       ·have bG := Kj dr hn
        have jt : n = cW (s.drop i) := by omega
        subst jt
        refine wz.E.a.a.a.a.r.d.D.m.m.C.z ?_
        skip
        refine nW (p := i) (q := i + cW (s.drop i)) rfl rfl ⟨_, _, rfl, rfl⟩ ⟨_, _, rfl, oM⟩ oM oM ?_
        rw [wx]
        refine aO rfl rfl (KZ g _ (by rw [List.length_take, List.length_drop]; omega) (by rw [List.length_take, List.length_drop]; omega) (K7 af dW)) ?_
        refine wz.d.D.m.U.m.U.C.b.a.z ?_
        exact hK _ ⟨hw, iA⟩ ⟨rfl, rfl, rfl, rfl, rfl, rfl, trivial⟩
      ·have bG := Kk (s := s) (k := i + n) oM
       have jt : n = cW (s.drop i) := by omega
       subst jt
       refine wz.E.a.a.a.a.r.d.D.m.m.C.o.b.a.h.h.h.h.h.h.z ?_
       skip
       refine nW (p := i) (q := i + cW (s.drop i)) rfl rfl ⟨_, _, rfl, rfl⟩ ⟨_, _, rfl, oM⟩ oM oM ?_
       rw [wx]
       refine aO rfl rfl (KZ g _ (by rw [List.length_take, List.length_drop]; omega) (by rw [List.length_take, List.length_drop]; omega) (K7 af dW)) ?_
       refine wz.d.D.m.U.m.U.C.b.a.z ?_
       exact hK _ ⟨hw, iA⟩ ⟨rfl, rfl, rfl, rfl, rfl, rfl, trivial⟩
     ·refine wz.a.a.c.e.d.j.z ?_
      refine nW (p := i) (q := s.length) rfl rfl ⟨_, _, rfl, rfl⟩ rfl oM oM ?_
      rw [List.take_length]
      refine aO rfl rfl (Ua g _ [45, 62]) ?_
      refine wz.b.a.z ?_
      refine an rfl (fun hp => ?_) (fun hp => ?_)
      ·obtain ⟨h2, e1, e2⟩ := K8.1 hp.2
       have kU := Km h2 dW (by rw [e1]; rfl) (by rw [e2]; rfl)
       have uG : kindOf ((s.drop i).take (cW (s.drop i))) = 5 := by rw [kU]; rw [show (s.drop i).take 2 = [45, 62] from hp.2]; decide
       refine wz.d.D.m.U.C.b.a.c.d.D.m.U.m.U.m.U.m.m.C.z ?_
       exact hK _ ⟨hw, iA⟩ ⟨rfl, rfl, rfl, rfl, by rw [kU]; rfl, by rw [uG]; rfl, trivial⟩
      ·have kU := zw af dW (fun h1 h2 h3 => hp ⟨by rw [List.length_drop]; simp; omega, K8.2 ⟨h2, UInt8.toNat_inj.1 (by rw [h1]; rfl), UInt8.toNat_inj.1 (by rw [h3]; rfl)⟩⟩)
       have uG : kindOf ((s.drop i).take (cW (s.drop i))) = if gg s[i] kA < 0 then 0 else 5 := by rw [kU, drop_cons af]; exact Ub dW
       refine wz.a.c.d.j.z ?_
       refine aO rfl rfl (KS g kA _) ?_
       refine wz.b.a.a.z ?_
       refine an rfl (fun hm => ?_) (fun hm => ?_)
       ·rw [if_pos hm] at uG
        refine wz.d.D.C.b.a.c.d.D.m.U.m.U.m.U.m.U.m.C.z ?_
        exact hK _ ⟨hw, iA⟩ ⟨rfl, rfl, rfl, rfl, by rw [kU]; rfl, by rw [uG]; rfl, trivial⟩
       ·rw [if_neg hm] at uG
        refine wz.d.D.m.U.m.U.m.U.m.U.m.U.C.d.j.z ?_
        exact hK _ ⟨hw, iA⟩ ⟨rfl, rfl, rfl, rfl, by rw [kU]; rfl, by rw [uG]; rfl, trivial⟩
  ·have dw : i = s.length := by omega
   subst dw
   refine wz.i.b.Cj.a.K.a.c.d.D.m.m.C.z ?_
   refine cB [_] rfl (.tmp rfl) (ay 1 rfl rfl rL) (List.sublist_append_left [_] [_]) ⟨rfl, ?_⟩
   rw [wy hle, hinv, List.drop_length, Kn]
   simp only [pre, List.append_nil]
   exact ⟨v, rfl, rfl⟩
end Go.Proofs.YtlnjfkfojkgiiaaGreatDoor
namespace Go.Proofs.YtlnjfkfojkgiiaaGreatDoor
end Go.Proofs.YtlnjfkfojkgiiaaGreatDoor
namespace Go.Proofs.YtlnjfkfojkgiiaaGreatDoor
end Go.Proofs.YtlnjfkfojkgiiaaGreatDoor
namespace Go.Proofs.YtlnjfkfojkgiiaaGreatDoor
attribute [local irreducible] wpList Code.wp ah bodyPost Go.aZ.Ends Exit.then Exit.inBlock dJ Wq Kq
structure pV (g : ab) (ar : List Int) (lv : Value) (ds : List Da) (dv : Value) : Prop where
 c : au g 1 lv ar.length (ar.map (Value.int .i64))
 hc : ar.length ≤ 1000000
 d : ∃ xd, au g 4 dv ds.length xd ∧ aL (gC g) ds xd
 dn : ds.length ≤ 8
 dg : ∀ d ∈ ds, si d ∧ zB d
theorem pV.mono {g g' : ab} (hle : ab.le g g') {ar : List Int} {lv : Value} {ds : List Da} {dv : Value} (h : pV g ar lv ds dv) : pV g' ar lv ds dv := by
 obtain ⟨h1, h2, ⟨xd, h3, h4⟩, h5, h6⟩ := h
 exact ⟨h1.mono hle, h2, ⟨xd, h3.mono hle, ng hle h4⟩, h5, h6⟩
theorem pV.tp {g : ab} {ar : List Int} {lv : Value} {ds : List Da} {dv : Value} (h : pV g ar lv ds dv) : wC g ar lv ds dv [] (.slice none 0 0) :=
 ⟨h.c, h.hc, h.d, h.dn, fun d hd => (h.dg d hd).1, ⟨[], cP g 5, cQ g⟩, sM, fun t h => by cases h⟩
def FA (ar : List Int) (b : Nat) (lv : Value) (d : Nat) (v : Value) (g' : ab) (r' : aA) : Prop := ∃ (e : Ex) (i' : Nat), cT g' v e ∧ eQ e ∧ (bL e).length ≤ bE d ∧ r' = c8 b lv i' ∧ i' ≤ ar.length
theorem FB (e : Ex) : (nu e).length ≤ (bL e).length + 2 := by
 unfold nu paren
 split <;> simp
theorem FC (e : Ex) : (lE e).length ≤ (bL e).length + 2 := by
 unfold lE paren
 split <;> simp
theorem Ud (vs : List Bytes) (h : ∀ v ∈ vs, v.length ≤ 2) : (eU vs).length ≤ 3 * vs.length := by
 induction vs with
 | nil => simp [eU]
 | cons v r ih =>
  have h1 := ih (fun x hx => h x (List.mem_cons_of_mem _ hx))
  have h2 := h v (List.mem_cons_self ..)
  simp only [eU, List.flatMap_cons, List.length_append, List.length_cons] at h1 ⊢
  omega
def FD (B : Nat) (a : Ar) : Prop := a.bQ.length ≤ 5 ∧ (∀ v ∈ a.vars, v.length ≤ 2) ∧ a.vars.length ≤ 2 ∧ (bL a.body).length ≤ B
theorem K_ {B : Nat} {a : Ar} (h : FD B a) : (iO a).length ≤ 13 + B := by
 obtain ⟨h1, h2, h3, h4⟩ := h
 cases a with
 | mk p c vs b =>
  have h5 := Ud vs h2
  simp only [Ar.bQ, Ar.vars, Ar.body] at h1 h3 h4
  simp only [iO, List.length_append, List.length_cons, List.length_nil]
  omega
theorem La {B : Nat} : ∀ (l : List Ar), (∀ a ∈ l, FD B a) → (ig l).length ≤ l.length * (16 + B)
 | [], _ => by simp [ig]
 | a :: r, h => by
  have h1 := La r (fun x hx => h x (List.mem_cons_of_mem _ hx))
  have h2 := K_ (h a (List.mem_cons_self ..))
  simp only [ig, List.length_append, List.length_cons, List.length_nil, Nat.add_mul]
  omega
theorem Ue {B : Nat} (l : List Ar) (hn : 1 ≤ l.length) (h : ∀ a ∈ l, FD B a) : (gI l).length + 3 ≤ l.length * (16 + B) := by
 cases l with
 | nil => simp at hn
 | cons a r =>
  have h1 := La r (fun x hx => h x (List.mem_cons_of_mem _ hx))
  have h2 := K_ (h a (List.mem_cons_self ..))
  simp only [gI, List.length_append, List.length_cons, Nat.add_mul]
  omega
theorem Lb (ar : List Int) (b d : Nat) (hd : d ≤ 1000)
  (hI : ∀ d', d = d' + 1 → ∀ g i lv ds dv, pV g ar lv ds dv → i ≤ ar.length → cR prog 53 [ptr b 0, dv, .int .i64 d'] g (c8 b lv i) (FA ar b lv d'))
  (g : ab) (i : Nat) (lv : Value) (ds : List Da) (dv : Value) (cY : pV g ar lv ds dv) (hi : i ≤ ar.length) :
  cR prog 53 [ptr b 0, dv, .int .i64 d] g (c8 b lv i) (FA ar b lv d) := by
 obtain ⟨xd, gm, jO⟩ := cY.d
 have hb5 := nY d
 have nj := cY.dn
 obtain ⟨da, dc, rfl⟩ := aU gm
 refine aw func53 rfl ntmps53 rfl fun E hE => ?_
 refine aS ?_
 refine aj rfl (fun b6 => ?_)
 refine wz.a.c.b.z ?_
 refine aG 1 rfl rfl rfl (e_ g ar cY.hc lv cY.c b i hi 14 oM) ?_
 rintro v g1 r' ⟨rfl, k, i1, rfl, gW, fb, rfl, de⟩ _
 refine wz.b.a.z ?_
 refine cD (ι := Int) (fun p => [(0, ptr b 0), (1, .slice da ds.length dc), (2, .int .i64 d), (6, ptr b6 0), (7, .int .i64 p)]) (fun _ => g1)
  (fun _ => [.ae b6 47 dK, c8 b lv i1]) (fun p => 0 ≤ p ∧ p < 14 ∧ (5 ≤ p → 1 ≤ d)) ?_ ?_
 ·intro p hp
  obtain ⟨p0, p1, p2⟩ := hp
  try dsimp only
  have Uf : p = 0 ∨ p = 1 ∨ p = 2 ∨ p = 3 ∨ p = 4 ∨ p = 5 ∨ p = 6 ∨ p = 7 ∨ p = 8 ∨ p = 9 ∨ p = 10 ∨ p = 11 ∨ p = 12 ∨ p = 13 := by omega
  rcases Uf with rfl | rfl | rfl | rfl | rfl | rfl | rfl | rfl | rfl | rfl | rfl | rfl | rfl | rfl
  ·
   refine wz.a.c.t.d.j.t.b.a.a.c.e.p.b.a.c.e.z ?_
   refine aG 1 rfl rfl rfl (qP g1 ar cY.hc lv cY.c b i1 de) ?_
   rintro v g2 r' ⟨rfl, n, i2, rfl, n1, n2, rfl, cL⟩ _
   refine wz.l.x.i.b.q.K.z ?_
   exact bp [_] rfl (ay 0 rfl rfl rL) sA ⟨_, rfl, cN 1 0 n 0, i2, je g2 1 0 n 0, .var 0 n n1, by rw [sJ]; omega, rfl, cL⟩
  ·
   refine wz.a.c.t.b.a.a.r.o.b.a.a.c.e.p.b.a.c.e.z ?_
   refine aG 1 rfl rfl rfl (qP g1 ar cY.hc lv cY.c b i1 de) ?_
   rintro v g2 r' ⟨rfl, n, i2, rfl, n1, n2, rfl, cL⟩ _
   refine wz.l.x.i.b.q.K.z ?_
   exact bp [_] rfl (ay 0 rfl rfl rL) sA ⟨_, rfl, cN 1 0 n 0, i2, je g2 1 0 n 0, .var 0 n n1, by rw [sJ]; omega, rfl, cL⟩
  ·
   refine wz.a.c.t.b.a.a.c.o.b.a.a.r.o.b.a.a.c.e.p.b.a.c.e.z ?_
   refine aG 1 rfl rfl rfl (e_ g1 ar cY.hc lv cY.c b i1 de 4 oM) ?_
   rintro v g2 r' ⟨rfl, q, i2, rfl, gp, ep, rfl, cL⟩ _
   obtain ⟨m, rfl⟩ : ∃ m : Nat, q = m := ⟨q.toNat, oM⟩
   refine wz.l.x.i.b.q.K.z ?_
   exact bp [_] rfl (ay 0 rfl rfl rL) sA ⟨_, rfl, cN 3 0 [] m, i2, je g2 3 0 [] m, .int 0 m oM, by rw [wM]; simp; omega, rfl, cL⟩
  ·
   refine wz.b.a.A.a.c.e.t.b.a.a.c.o.b.a.a.c.o.b.a.a.r.o.b.a.a.c.e.p.b.a.c.e.z ?_
   refine an rfl (fun h0 => ?_) (fun h0 => ?_)
   ·have pS : 0 < ds.length := by omega
    refine wz.A.a.a.a.c.z ?_
    refine aG 1 rfl rfl rfl (e_ g1 ar cY.hc lv cY.c b i1 de ds.length oM) ?_
    rintro v g2 r' ⟨rfl, q, i2, rfl, gp, ep, rfl, cL⟩ _
    have hq : q.toNat < ds.length := by omega
    obtain ⟨b0, off, cap, aq, hx⟩ := gm.held hq
    cases aq
    obtain ⟨cs, e1, hr⟩ := dt (fun _ _ h => h.one.1) jO hx hq
    obtain ⟨_, n1, n2, n3⟩ := cY.dg _ (List.getElem_mem hq)
    generalize ds[q.toNat] = dd at e1 n1 n2 n3
    obtain ⟨a1, c1, a2, c2, xc, rfl, _, eV, lF⟩ := e1.form
    skip
    refine gV (j := q.toNat) rfl rfl rfl oM hq ?_
    refine wz.An.z ?_
    refine aj rfl (fun b8 => ?_)
    refine wz.e.b.q.z ?_
    obtain ⟨bb, oo, cp, lz, jd⟩ := eV.held (show 0 < dd.cons.length by omega)
    cases lz
    skip
    refine bO [2, 1] mixed (fun hG => ?_)
    refine wz.P.z ?_; refine ⟨_, (aI rfl), ?_⟩; refine wz.R.z ?_; refine ⟨_, (a7 0 rfl rfl rfl), ?_⟩; refine wz.S.z ?_; refine ⟨_, (ag rfl), ?_⟩; refine wz.X.z ?_; refine ⟨_, (aI rfl), ?_⟩; refine wz.Z.z ?_; refine ⟨_, (a7 0 rfl rfl rfl), ?_⟩; refine wz.Ad.z ?_; refine ⟨_, (jQ rfl), ?_⟩
    refine wz.Ao.z ?_
    refine aG 2 rfl rfl rfl (e_ g2 ar cY.hc lv cY.c b i2 cL dd.cons.length oM) ?_
    rintro v g3 r' ⟨rfl, q2, i3, rfl, uH, wN, rfl, dE⟩ _
    have wG : q2.toNat < dd.cons.length := by omega
    obtain ⟨cc, e2, eM⟩ := dt (fun _ _ h => h.one.1) lF jd wG
    obtain ⟨k1, k2, k3⟩ := n3 _ (List.getElem_mem wG)
    generalize dd.cons[q2.toNat] = c0 at e2 k1 k2 k3
    obtain ⟨a4, c4, xf, rfl, _, _⟩ := e2.form
    have g_ : ∀ own, Rd g3 own bb (oo + q2.toNat * 3 + 1) [str c0.name] := fun own => (eM own).du 1 rfl
    refine wz.f.b.z ?_
    refine bn 7 rfl kR rfl hG ⟨_, (bU (j := q2.toNat) rfl rfl oM wG), ?_⟩
    refine wz.AV.z ?_; refine ⟨_, (aI rfl), ?_⟩
    refine bn 9 rfl kR rfl hG ⟨_, (cU rfl (g_ _)), ?_⟩
    refine wz.Al.z ?_; refine ⟨_, (et rfl rL), ?_⟩
    refine wz.l.x.l.i.d.F.f.b.B.Bf.z ?_
    exact bp [_] rfl (ay 1 rfl rfl rL) sB ⟨_, rfl, cN 2 0 c0.name 0, i3, je g3 2 0 c0.name 0, .bQ 0 _ k1, by rw [sK]; omega, rfl, dE⟩
   ·refine wz.l.x.i.b.q.K.c.d.j.z ?_
    exact bp [_] rfl (ay 0 rfl rfl rL) sA ⟨_, rfl, cN 2 0 [71, 111, 110, 101] 0, i1, je g1 2 0 [71, 111, 110, 101] 0, .bQ 0 _ dC, by rw [sK]; simp; omega, rfl, de⟩
  ·
   refine wz.l.x.i.b.q.K.c.t.b.a.a.c.o.b.a.a.c.o.b.a.a.c.o.b.a.a.r.o.b.a.a.c.e.p.b.a.c.e.z ?_
   exact bp [_] rfl (ay 0 rfl rfl rL) sA ⟨_, rfl, cN 10 0 [] 0, i1, je g1 10 0 [] 0, .hole 0, by rw [wO]; simp; omega, rfl, de⟩
  ·
   obtain ⟨d', rfl⟩ : ∃ d', d = d' + 1 := ⟨d - 1, oM⟩
   have ih := hI d' rfl
   have o7 : bE (d' + 1) = 3 * bE d' + 43 := rfl
   have qS := nY d'
   refine wz.a.c.t.d.j.t.b.a.a.c.e.o.b.a.a.c.o.b.a.a.c.o.b.a.a.c.o.b.a.a.r.o.b.a.a.c.e.p.b.a.c.e.z ?_
   refine aG 1 rfl rfl rfl (qP g1 ar cY.hc lv cY.c b i1 de) ?_
   rintro v g2 r' ⟨rfl, n, i2, rfl, n1, n2, rfl, cL⟩ _
   refine wz.AE.a.a.a.z ?_
   rw [show ((d' + 1 : Nat) : Int) - 1 = (d' : Int) by omega]
   refine aG 1 rfl rfl rfl (ih g2 i2 lv ds _ cY cL) ?_
   rintro w g2 r' ⟨x, i3, hx, gx, lx, rfl, dE⟩ aD
   obtain ⟨a1, m1, c1, a2, m2, c2, a3, m3, c3, rfl, db⟩ := hx.form
   skip
   refine bu rfl rfl rL rL rL rL rL (fun fX => ?_)
   refine bg (fun g3 aF bY => ?_)
   refine wz.l.x.i.b.q.K.z ?_
   exact bp [_] rfl (ay 0 rfl rfl rL) sA ⟨_, rfl, bC 4 0 n [x], i3, jR g3 4 0 n bY (na (db.mono aF)), .lam 0 n x n1 gx, by rw [qT]; simp; omega, rfl, dE⟩
  ·
   obtain ⟨d', rfl⟩ : ∃ d', d = d' + 1 := ⟨d - 1, oM⟩
   have ih := hI d' rfl
   have o7 : bE (d' + 1) = 3 * bE d' + 43 := rfl
   have qS := nY d'
   refine wz.a.c.t.b.a.a.r.o.b.a.a.c.e.o.b.a.a.c.o.b.a.a.c.o.b.a.a.c.o.b.a.a.r.o.b.a.a.c.e.p.b.a.c.e.z ?_
   refine aG 1 rfl rfl rfl (qP g1 ar cY.hc lv cY.c b i1 de) ?_
   rintro v g2 r' ⟨rfl, n, i2, rfl, n1, n2, rfl, cL⟩ _
   refine wz.AE.a.a.a.z ?_
   rw [show ((d' + 1 : Nat) : Int) - 1 = (d' : Int) by omega]
   refine aG 1 rfl rfl rfl (ih g2 i2 lv ds _ cY cL) ?_
   rintro w g2 r' ⟨x, i3, hx, gx, lx, rfl, dE⟩ aD
   obtain ⟨a1, m1, c1, a2, m2, c2, a3, m3, c3, rfl, db⟩ := hx.form
   skip
   refine bu rfl rfl rL rL rL rL rL (fun fX => ?_)
   refine bg (fun g3 aF bY => ?_)
   refine wz.l.x.i.b.q.K.z ?_
   exact bp [_] rfl (ay 0 rfl rfl rL) sA ⟨_, rfl, bC 4 0 n [x], i3, jR g3 4 0 n bY (na (db.mono aF)), .lam 0 n x n1 gx, by rw [qT]; simp; omega, rfl, dE⟩
  ·
   obtain ⟨d', rfl⟩ : ∃ d', d = d' + 1 := ⟨d - 1, oM⟩
   have ih := hI d' rfl
   have o7 : bE (d' + 1) = 3 * bE d' + 43 := rfl
   have qS := nY d'
   refine wz.AE.a.a.a.c.t.d.j.t.b.a.a.c.e.o.b.a.a.r.o.b.a.a.c.e.o.b.a.a.c.o.b.a.a.c.o.b.a.a.c.o.b.a.a.r.o.b.a.a.c.e.p.b.a.c.e.z ?_
   rw [show ((d' + 1 : Nat) : Int) - 1 = (d' : Int) by omega]
   refine aG 1 rfl rfl rfl (ih g1 i1 lv ds _ cY de) ?_
   rintro w g2 r' ⟨x, i3, hx, gx, lx, rfl, dE⟩ aD
   obtain ⟨a1, m1, c1, a2, m2, c2, a3, m3, c3, rfl, db⟩ := hx.form
   skip
   refine aj rfl (fun b9 => ?_)
   refine wz.e.b.q.z ?_
   refine bO [2, 1] mixed (fun hG => ?_)
   refine wz.P.z ?_; refine ⟨_, (bP 0 rfl rfl rL), ?_⟩; refine wz.R.z ?_; refine ⟨_, (ag rfl), ?_⟩; refine wz.S.z ?_; refine ⟨_, (ag rfl), ?_⟩; refine wz.X.z ?_; refine ⟨_, (ag rfl), ?_⟩
   refine wz.Aq.Df.z ?_
   rw [show ((d' + 1 : Nat) : Int) - 1 = (d' : Int) by omega]
   refine aG 2 rfl rfl rfl (ih g2 i3 lv ds _ (cY.mono aD) dE) ?_
   rintro w2 g3 r' ⟨y, i4, hy, gy, ly, rfl, ib⟩ aF
   obtain ⟨e1, f1, h1, e2, f2, h2, e3, f3, h3, rfl, gJ⟩ := hy.form
   refine wz.Ao.f.b.z ?_
   refine bu rfl rfl rL rL rL rL rL (fun fX => ?_)
   refine bg (fun g4 aR eG => ?_)
   have qU := ab.le_trans aF aR
   refine wz.l.x.i.d.F.f.b.B.Ae.f.b.K.AM.f.b.z ?_
   refine bp [_] rfl (ay 1 rfl rfl rL) sB ⟨_, rfl, bC 5 0 [] [x, y], i4, jR g4 5 0 [] eG (o8 ((db.mono aF).mono aR) (gJ.mono aR)), .app 0 x y gx gy, ?_, rfl, ib⟩
   have e1 := FB x
   have e2 := FC y
   rw [pW]
   simp only [List.length_append, List.length_cons]
   omega
  ·
   obtain ⟨d', rfl⟩ : ∃ d', d = d' + 1 := ⟨d - 1, oM⟩
   have ih := hI d' rfl
   have o7 : bE (d' + 1) = 3 * bE d' + 43 := rfl
   have qS := nY d'
   refine wz.AE.a.a.a.c.t.d.j.t.b.a.a.c.o.b.a.a.c.e.o.b.a.a.r.o.b.a.a.c.e.o.b.a.a.c.o.b.a.a.c.o.b.a.a.c.o.b.a.a.r.o.b.a.a.c.e.p.b.a.c.e.z ?_
   rw [show ((d' + 1 : Nat) : Int) - 1 = (d' : Int) by omega]
   refine aG 1 rfl rfl rfl (ih g1 i1 lv ds _ cY de) ?_
   rintro w g2 r' ⟨x, i3, hx, gx, lx, rfl, dE⟩ aD
   obtain ⟨a1, m1, c1, a2, m2, c2, a3, m3, c3, rfl, db⟩ := hx.form
   skip
   refine aj rfl (fun b9 => ?_)
   refine wz.e.b.q.z ?_
   refine bO [2, 1] mixed (fun hG => ?_)
   refine wz.P.z ?_; refine ⟨_, (bP 0 rfl rfl rL), ?_⟩; refine wz.R.z ?_; refine ⟨_, (ag rfl), ?_⟩; refine wz.S.z ?_; refine ⟨_, (ag rfl), ?_⟩; refine wz.X.z ?_; refine ⟨_, (ag rfl), ?_⟩
   refine wz.Aq.Df.z ?_
   rw [show ((d' + 1 : Nat) : Int) - 1 = (d' : Int) by omega]
   refine aG 2 rfl rfl rfl (ih g2 i3 lv ds _ (cY.mono aD) dE) ?_
   rintro w2 g3 r' ⟨y, i4, hy, gy, ly, rfl, ib⟩ aF
   obtain ⟨e1, f1, h1, e2, f2, h2, e3, f3, h3, rfl, gJ⟩ := hy.form
   refine wz.Ao.f.b.z ?_
   refine bu rfl rfl rL rL rL rL rL (fun fX => ?_)
   refine bg (fun g4 aR eG => ?_)
   have qU := ab.le_trans aF aR
   refine wz.l.x.i.d.F.f.b.B.Ae.f.b.K.AM.f.b.z ?_
   refine bp [_] rfl (ay 1 rfl rfl rL) sB ⟨_, rfl, bC 5 0 [] [x, y], i4, jR g4 5 0 [] eG (o8 ((db.mono aF).mono aR) (gJ.mono aR)), .app 0 x y gx gy, ?_, rfl, ib⟩
   have e1 := FB x
   have e2 := FC y
   rw [pW]
   simp only [List.length_append, List.length_cons]
   omega
  ·
   obtain ⟨d', rfl⟩ : ∃ d', d = d' + 1 := ⟨d - 1, oM⟩
   have ih := hI d' rfl
   have o7 : bE (d' + 1) = 3 * bE d' + 43 := rfl
   have qS := nY d'
   refine wz.AE.a.a.a.c.t.b.a.a.r.o.b.a.a.c.o.b.a.a.c.e.o.b.a.a.r.o.b.a.a.c.e.o.b.a.a.c.o.b.a.a.c.o.b.a.a.c.o.b.a.a.r.o.b.a.a.c.e.p.b.a.c.e.z ?_
   rw [show ((d' + 1 : Nat) : Int) - 1 = (d' : Int) by omega]
   refine aG 1 rfl rfl rfl (ih g1 i1 lv ds _ cY de) ?_
   rintro w g2 r' ⟨x, i3, hx, gx, lx, rfl, dE⟩ aD
   obtain ⟨a1, m1, c1, a2, m2, c2, a3, m3, c3, rfl, db⟩ := hx.form
   skip
   refine aj rfl (fun b9 => ?_)
   refine wz.e.b.q.z ?_
   refine bO [2, 1] mixed (fun hG => ?_)
   refine wz.P.z ?_; refine ⟨_, (bP 0 rfl rfl rL), ?_⟩; refine wz.R.z ?_; refine ⟨_, (ag rfl), ?_⟩; refine wz.S.z ?_; refine ⟨_, (ag rfl), ?_⟩; refine wz.X.z ?_; refine ⟨_, (ag rfl), ?_⟩
   refine wz.Aq.Df.z ?_
   rw [show ((d' + 1 : Nat) : Int) - 1 = (d' : Int) by omega]
   refine aG 2 rfl rfl rfl (ih g2 i3 lv ds _ (cY.mono aD) dE) ?_
   rintro w2 g3 r' ⟨y, i4, hy, gy, ly, rfl, ib⟩ aF
   obtain ⟨e1, f1, h1, e2, f2, h2, e3, f3, h3, rfl, gJ⟩ := hy.form
   refine wz.Ao.f.b.z ?_
   refine bu rfl rfl rL rL rL rL rL (fun fX => ?_)
   refine bg (fun g4 aR eG => ?_)
   have qU := ab.le_trans aF aR
   refine wz.l.x.i.d.F.f.b.B.Ae.f.b.K.AM.f.b.z ?_
   refine bp [_] rfl (ay 1 rfl rfl rL) sB ⟨_, rfl, bC 5 0 [] [x, y], i4, jR g4 5 0 [] eG (o8 ((db.mono aF).mono aR) (gJ.mono aR)), .app 0 x y gx gy, ?_, rfl, ib⟩
   have e1 := FB x
   have e2 := FC y
   rw [pW]
   simp only [List.length_append, List.length_cons]
   omega
  ·
   obtain ⟨d', rfl⟩ : ∃ d', d = d' + 1 := ⟨d - 1, oM⟩
   have ih := hI d' rfl
   have o7 : bE (d' + 1) = 3 * bE d' + 43 := rfl
   have qS := nY d'
   refine wz.a.c.t.b.a.a.c.o.b.a.a.r.o.b.a.a.c.o.b.a.a.c.e.o.b.a.a.r.o.b.a.a.c.e.o.b.a.a.c.o.b.a.a.c.o.b.a.a.c.o.b.a.a.r.o.b.a.a.c.e.p.b.a.c.e.z ?_
   refine aG 1 rfl rfl rfl (e_ g1 ar cY.hc lv cY.c b i1 de 2 oM) ?_
   rintro v g2 r' ⟨rfl, q, i2, rfl, gp, ep, rfl, cL⟩ _
   obtain ⟨kk, uI⟩ : ∃ kk : Int, kk = 6 + q := ⟨_, rfl⟩
   refine wz.a.c.b.a.E.z ?_
   rw [← uI]
   refine aG 1 rfl rfl rfl (qP g2 ar cY.hc lv cY.c b i2 cL) ?_
   rintro v g3 r' ⟨rfl, n, i3, rfl, n1, n2, rfl, dE⟩ _
   refine wz.AE.a.a.a.c.b.a.z ?_
   rw [show ((d' + 1 : Nat) : Int) - 1 = (d' : Int) by omega]
   refine aG 1 rfl rfl rfl (ih g3 i3 lv ds _ cY dE) ?_
   rintro w g4 r' ⟨x, i4, hx, gx, lx, rfl, ib⟩ aD
   obtain ⟨a1, m1, c1, a2, m2, c2, a3, m3, c3, rfl, db⟩ := hx.form
   skip
   refine aj rfl (fun kW => ?_)
   refine wz.e.b.q.z ?_
   refine bO [2, 1] mixed (fun hG => ?_)
   refine wz.P.z ?_; refine ⟨_, (ag rfl), ?_⟩; refine wz.R.z ?_; refine ⟨_, (ag rfl), ?_⟩; refine wz.S.z ?_; refine ⟨_, (bP 0 rfl rfl rL), ?_⟩; refine wz.X.z ?_; refine ⟨_, (ag rfl), ?_⟩; refine wz.Z.z ?_; refine ⟨_, (ag rfl), ?_⟩; refine wz.Ad.z ?_; refine ⟨_, (ag rfl), ?_⟩
   refine bn 6 rfl kR rfl hG ⟨_, (mA rfl rfl oM), ?_⟩; refine wz.AM.z ?_
   rw [show ((d' + 1 : Nat) : Int) - 1 = (d' : Int) by omega]
   refine aG 2 rfl rfl rfl (ih g4 i4 lv ds _ (cY.mono aD) ib) ?_
   rintro w2 g5 r' ⟨y, i5, hy, gy, ly, rfl, o9⟩ aF
   obtain ⟨e1, f1, h1, e2, f2, h2, e3, f3, h3, rfl, gJ⟩ := hy.form
   refine wz.Ae.f.b.z ?_
   refine bu rfl rfl rL rL rL rL rL (fun fX => ?_)
   refine bg (fun g6 aR eG => ?_)
   have qU := ab.le_trans aF aR
   refine wz.l.x.i.d.F.f.b.B.AW.f.b.K.Ai.f.b.z ?_
   have zH : kk = 6 ∨ kk = 7 := by omega
   refine bp [_] rfl (ay 1 rfl rfl rL) sB ⟨_, rfl, bC kk 0 n [x, y], i5, jR g6 kk 0 n eG (o8 ((db.mono aF).mono aR) (gJ.mono aR)), .bind kk 0 n x y zH n1 gx gy, ?_, rfl, o9⟩
   have e3 : dI.length = 3 ∧ fy.length = 3 ∧ iC.length = 2 := by decide
   rcases zH with rfl | rfl
   ·rw [sL]
    simp only [List.length_append, List.length_cons, List.length_nil]
    omega
   ·rw [sN]
    simp only [List.length_append, List.length_cons, List.length_nil]
    omega
  ·
   obtain ⟨d', rfl⟩ : ∃ d', d = d' + 1 := ⟨d - 1, oM⟩
   have ih := hI d' rfl
   have o7 : bE (d' + 1) = 3 * bE d' + 43 := rfl
   have qS := nY d'
   refine wz.AE.a.a.a.c.t.b.a.a.c.o.b.a.a.c.o.b.a.a.r.o.b.a.a.c.o.b.a.a.c.e.o.b.a.a.r.o.b.a.a.c.e.o.b.a.a.c.o.b.a.a.c.o.b.a.a.c.o.b.a.a.r.o.b.a.a.c.e.p.b.a.c.e.z ?_
   rw [show ((d' + 1 : Nat) : Int) - 1 = (d' : Int) by omega]
   refine aG 1 rfl rfl rfl (ih g1 i1 lv ds _ cY de) ?_
   rintro w g2 r' ⟨x, i3, hx, gx, lx, rfl, dE⟩ aD
   obtain ⟨a1, m1, c1, a2, m2, c2, a3, m3, c3, rfl, db⟩ := hx.form
   skip
   refine bu rfl rfl rL rL rL rL rL (fun fX => ?_)
   refine bg (fun g3 aF bY => ?_)
   refine wz.a.a.z ?_
   refine aG 1 rfl rfl rfl (TE ar b 2 oM g3 i3 lv ds _ [] _ ((cY.mono aD).mono aF).tp dE) ?_
   rintro w3 g4 r' ⟨t, i4, ht, gt, lt, rfl, ib⟩ aR
   have hlt : (cK t).length ≤ 48 := lt
   obtain ⟨ya, ym, yc, rfl, eF⟩ := ht.bA
   refine wz.l.x.i.b.q.K.z ?_
   exact bp [_] rfl (ay 0 rfl rfl rL) sA ⟨_, rfl, h_ 0 x t, i4, FE g4 0 t (bY.mono aR) ((db.mono aF).mono aR) eF, .iY 0 x t gx gt, by rw [sO]; simp; omega, rfl, ib⟩
  ·
   obtain ⟨d', rfl⟩ : ∃ d', d = d' + 1 := ⟨d - 1, oM⟩
   have ih := hI d' rfl
   have o7 : bE (d' + 1) = 3 * bE d' + 43 := rfl
   have qS := nY d'
   refine wz.AE.a.a.a.c.t.b.a.a.c.o.b.a.a.c.o.b.a.a.c.o.b.a.a.r.o.b.a.a.c.o.b.a.a.c.e.o.b.a.a.r.o.b.a.a.c.e.o.b.a.a.c.o.b.a.a.c.o.b.a.a.c.o.b.a.a.r.o.b.a.a.c.e.p.b.a.c.e.z ?_
   rw [show ((d' + 1 : Nat) : Int) - 1 = (d' : Int) by omega]
   refine aG 1 rfl rfl rfl (ih g1 i1 lv ds _ cY de) ?_
   rintro w g2 r' ⟨x, i3, hx, gx, lx, rfl, dE⟩ aD
   obtain ⟨a1, m1, c1, a2, m2, c2, a3, m3, c3, rfl, db⟩ := hx.form
   skip
   refine bu rfl rfl rL rL rL rL rL (fun fX => ?_)
   refine bg (fun g3 aF bY => ?_)
   refine wz.l.x.i.b.q.K.z ?_
   exact bp [_] rfl (ay 0 rfl rfl rL) sA ⟨_, rfl, bC 11 0 [] [x], i3, jR g3 11 0 [] bY (na (db.mono aF)), .held 0 x gx, by rw [sP]; simp; omega, rfl, dE⟩
  ·
   obtain ⟨d', rfl⟩ : ∃ d', d = d' + 1 := ⟨d - 1, oM⟩
   have ih := hI d' rfl
   have o7 : bE (d' + 1) = 3 * bE d' + 43 := rfl
   have qS := nY d'
   refine wz.b.a.A.a.c.e.d.y.j.o.b.a.a.c.o.b.a.a.c.o.b.a.a.c.o.b.a.a.r.o.b.a.a.c.o.b.a.a.c.e.o.b.a.a.r.o.b.a.a.c.e.o.b.a.a.c.o.b.a.a.c.o.b.a.a.c.o.b.a.a.r.o.b.a.a.c.e.p.b.a.c.e.z ?_
   refine an rfl (fun h0 => ?_) (fun h0 => ?_)
   ·refine wz.AE.a.a.a.c.z ?_
    rw [show ((d' + 1 : Nat) : Int) - 1 = (d' : Int) by omega]
    refine aG 1 rfl rfl rfl (ih g1 i1 lv ds _ cY de) ?_
    rintro w g2 r' ⟨x, i3, hx, gx, lx, rfl, dE⟩ aD
    obtain ⟨a1, m1, c1, a2, m2, c2, a3, m3, c3, rfl, db⟩ := hx.form
    refine wz.l.i.b.q.z ?_
    exact bp [_] rfl (ay 0 rfl rfl rL) sA ⟨_, rfl, x, i3, ⟨_, rfl, db⟩, gx, oM, rfl, dE⟩
   ·have pS : 0 < ds.length := by omega
    refine wz.A.a.a.a.c.d.j.z ?_
    refine aG 1 rfl rfl rfl (e_ g1 ar cY.hc lv cY.c b i1 de ds.length oM) ?_
    rintro v g2 r' ⟨rfl, q, i2, rfl, gp, ep, rfl, cL⟩ _
    have hq : q.toNat < ds.length := by omega
    obtain ⟨b0, off, cap, aq, hx⟩ := gm.held hq
    cases aq
    obtain ⟨cs, e1, hr⟩ := dt (fun _ _ h => h.one.1) jO hx hq
    obtain ⟨_, n1, n2, n3⟩ := cY.dg _ (List.getElem_mem hq)
    generalize ds[q.toNat] = dd at e1 n1 n2 n3
    obtain ⟨a1, c1, a2, c2, xc, rfl, _, eV, lF⟩ := e1.form
    obtain ⟨bb, oo, cp, lz, jd⟩ := eV.held (show 0 < dd.cons.length by omega)
    cases lz
    skip
    refine gV (j := q.toNat) rfl rfl rfl oM hq ?_
    refine wz.An.z ?_
    refine aj rfl (fun nk => ?_)
    refine wz.AE.a.a.a.c.b.q.z ?_
    rw [show ((d' + 1 : Nat) : Int) - 1 = (d' : Int) by omega]
    refine aG 2 rfl rfl rfl (ih g2 i2 lv ds _ cY cL) ?_
    rintro w g3 r' ⟨x, i3, hx0, gx, lx, rfl, dE⟩ aF
    obtain ⟨f1, k1, h1, f2, k2, h2, f3, k3, h3, rfl, db⟩ := hx0.form
    skip
    refine bu rfl rfl rL rL rL rL rL (fun fX => ?_)
    refine bg (fun g4 aR eG => ?_)
    refine wz.K.z ?_
    refine aj rfl (fun jf => ?_)
    refine wz.p.b.a.c.e.b.q.z ?_
    have FF := db.mono aR
    refine wz.CA.z ?_
    refine aX (ι := Nat × List Ar × Value × List Value × Nat × ab) (fun p => [(0, ptr b 0), (1, .slice (some ⟨b0, off, none⟩) ds.length dc), (2, .int .i64 (d' + 1 : Nat)), (6, ptr b6 0), (13, ptr nk 0), (14, ptr jf 0), (15, .int .i64 p.1)]) (fun p => p.2.2.2.2.2)
     (fun p => [.row 111 14 p.2.2.1 p.2.1.length p.2.2.2.1, .ae jf 47 (rR 0 (.slice (some ⟨fX, 0, none⟩) 1 1) p.2.2.1), .ae nk 60 [.int .i64 dd.pos, str dd.name, .slice a1 dd.params.length c1, .slice (some ⟨bb, oo, none⟩) dd.cons.length c2], .ae b6 47 dK, c8 b lv p.2.2.2.2.1])
     (fun p => ab.le g4 p.2.2.2.2.2 ∧ p.1 ≤ dd.cons.length ∧ p.2.1.length = p.1 ∧ (∃ a m c, p.2.2.1 = .slice a m c) ∧ fw p.2.2.2.2.2 p.2.1 p.2.2.2.1 ∧ (∀ a ∈ p.2.1, kindOf a.bQ = 2 ∧ a.bQ.length ≤ 5 ∧ (∀ v ∈ a.vars, kindOf v = 1 ∧ v.length ≤ 2) ∧ a.vars.length ≤ 2 ∧ eQ a.body ∧ (bL a.body).length ≤ bE d') ∧ p.2.2.2.2.1 ≤ ar.length) (fun p => dd.cons.length - p.1)
     (0, [], .slice none 0 0, [], i3, g4) ⟨ab.le_refl _, Nat.zero_le _, rfl, ⟨_, _, _, rfl⟩, qE _, (fun a h => by cases h), dE⟩ ⟨rfl, rfl, rfl, rfl, rfl, rfl, rfl, trivial⟩ rfl rfl ?_
    rintro ⟨j, acc, av, xa, i5, g5⟩ ⟨k1, k2, k3, ⟨sa, sm, sc, k4⟩, k5, k6, k7⟩
    simp only at k1 k2 k3 k4 k5 k6 k7
    subst k4
    try dsimp only
    refine wz.b.a.A.Ag.g.a.c.e.z ?_
    refine an rfl (fun hlt => ?_) (fun hlt => ?_)
    ·have eK : j < dd.cons.length := by omega
     have wP := ab.le_trans aF (ab.le_trans aR k1)
     have Lc := cY.mono wP
     obtain ⟨cc, e2, eM⟩ := dt (g := g5) (fun _ _ h => h.one.1) lF (fun k x h => wP _ _ _ (jd k x h)) eK
     obtain ⟨q1, q2, q3⟩ := n3 _ (List.getElem_mem eK)
     generalize gA : dd.cons[j] = c0 at e2 q1 q2 q3
     obtain ⟨a4, c4, xf, rfl, _, _⟩ := e2.form
     have g_ : ∀ own, Rd g5 own bb (oo + j * 3 + 1) [str c0.name] := fun own => (eM own).du 1 rfl
     have gD : ∀ own, Rd g5 own bb (oo + j * 3 + 2) [.slice a4 c0.fields.length c4] := fun own => (eM own).du 2 rfl
     refine wz.g.M.a.Ag.g.c.p.e.d.j.z ?_
     refine cj rfl rfl (g_ _) ?_
     refine wz.K.z ?_
     refine aj rfl (fun lG => ?_)
     refine wz.BG.p.b.a.c.e.b.q.z ?_
     refine aX (ι := Nat × List Bytes × Value × Nat) (fun p => [(0, ptr b 0), (1, .slice (some ⟨b0, off, none⟩) ds.length dc), (2, .int .i64 (d' + 1 : Nat)), (6, ptr b6 0), (13, ptr nk 0), (14, ptr jf 0), (15, .int .i64 j), (16, ptr lG 0), (17, .int .i64 p.1)]) (fun _ => g5)
      (fun p => [.row 9 1 p.2.2.1 p.2.1.length (p.2.1.map str), .ae lG 111 (kp 0 c0.name p.2.2.1 dK), .row 111 14 (.slice sa sm sc) acc.length xa, .ae jf 47 (rR 0 (.slice (some ⟨fX, 0, none⟩) 1 1) (.slice sa sm sc)), .ae nk 60 [.int .i64 dd.pos, str dd.name, .slice a1 dd.params.length c1, .slice (some ⟨bb, oo, none⟩) dd.cons.length c2], .ae b6 47 dK, c8 b lv p.2.2.2])
      (fun p => (∃ a m c, p.2.2.1 = .slice a m c) ∧ p.1 ≤ c0.fields.length ∧ p.2.1.length = p.1 ∧ (∀ v ∈ p.2.1, kindOf v = 1 ∧ v.length ≤ 2) ∧ p.2.2.2 ≤ ar.length) (fun p => c0.fields.length - p.1)
      (0, [], .slice none 0 0, i5) ⟨⟨_, _, _, rfl⟩, Nat.zero_le _, rfl, (fun v h => by cases h), k7⟩ ⟨rfl, rfl, rfl, rfl, rfl, rfl, rfl, rfl, rfl, trivial⟩ rfl rfl ?_
     rintro ⟨k, vs, vv, i6⟩ ⟨⟨va, vm, vc, m1⟩, m2, m3, m4, m5⟩
     simp only at m1 m2 m3 m4 m5
     subst m1
     try dsimp only
     refine wz.g.M.a.Bm.g.a.c.e.z ?_
     refine cj rfl rfl (gD _) ?_
     refine wz.b.a.A.z ?_
     refine an rfl (fun iM => ?_) (fun iM => ?_)
     ·refine wz.p.e.d.j.z ?_
      refine fQ 6 [6, 0] mixed kR (fun hG => ?_)
      refine wz.Ar.z ?_; refine ⟨_, (aI rfl), ?_⟩; refine wz.Ax.z ?_; refine ⟨_, (a7 0 rfl rfl rfl), ?_⟩; refine wz.Ay.z ?_; refine ⟨_, (ag rfl), ?_⟩
      refine wz.BM.z ?_
      refine aG 6 rfl rfl rfl (qP g5 ar cY.hc lv Lc.c b i6 m5) ?_
      rintro v g6 r' ⟨rfl, n, i7, rfl, Ug, Uh, rfl, FG⟩ _
      refine wz.By.f.b.z ?_
      refine bu rfl rfl rL rL rL rL rL (fun fX => ?_)
      refine wz.Bn.f.b.z ?_
      refine cV 1 0 rfl rfl rfl rfl rfl rL rL rfl mL oM (fun v' eD => ?_)
      refine gT 1 rfl ?_
      rintro ⟨ya, ym, yc, rfl⟩
      refine wz.b.a.E.a.r.d.y.N.Bj.g.Am.f.b.z ?_; refine fF (own' := [_, _, _, _, _, _, _]) sA ?_
      refine aM (k + 1, vs ++ [n], .slice ya ym yc, i7) ⟨⟨_, _, _, rfl⟩, uM, by simp only [List.length_append, List.length_cons, List.length_nil]; omega, fun v hv => ?_, FG⟩ uM ⟨rfl, rfl, rfl, rfl, rfl, rfl, rfl, rfl, rfl, trivial⟩ rfl ?_
      ·rcases List.mem_append.1 hv with h | h
       ·exact m4 v h
       ·rw [List.mem_singleton.1 h]; exact ⟨Ug, Uh⟩
      ·simp [kp, dO]
     ·refine bg (fun g6 dT mE => ?_)
      refine wz.AE.a.a.a.c.d.D.m.m.C.z ?_
      rw [show ((d' + 1 : Nat) : Int) - 1 = (d' : Int) by omega]
      refine aG 5 rfl rfl rfl (ih g6 i6 lv ds _ (Lc.mono dT) m5) ?_
      rintro w5 g7 r' ⟨y, i7, hy, gy, ly, rfl, FG⟩ fC
      obtain ⟨z1, z2, z3, z4, z5, z6, z7, z8, z9, rfl, gJ⟩ := hy.form
      have zI := ab.le_trans dT fC
      refine wz.G.Ag.g.r.b.q.g.z ?_
      refine bu rfl rfl rL rL rL rL rL (fun fX => ?_)
      refine cV 2 0 rfl rfl rfl rfl rfl rL rL rfl mL oM (fun v' eD => ?_)
      refine gT 2 rfl ?_
      rintro ⟨ya, ym, yc, rfl⟩
      have wQ := JE (p := 0) (c := c0.name) (k5.mono zI) (mE.mono fC) gJ
      refine wz.Cc.b.a.E.a.r.d.y.N.Bl.g.z ?_
      refine aM (j + 1, acc ++ [.mk 0 c0.name vs y], .slice ya ym yc, xa ++ kp 0 c0.name (.slice va vm vc) _, i7, g7) ⟨ab.le_trans k1 zI, uM, by simp only [List.length_append, List.length_cons, List.length_nil]; omega, ⟨_, _, _, rfl⟩, wQ, fun a ha => ?_, FG⟩ uM ⟨rfl, rfl, rfl, rfl, rfl, rfl, rfl, trivial⟩ rfl ?_
      ·rcases List.mem_append.1 ha with h | h
       ·exact k6 a h
       ·rw [List.mem_singleton.1 h]; exact ⟨q1, q2, m4, by show vs.length ≤ 2; omega, gy, ly⟩
      ·simp [kp, dO]
       first | rfl | exact ⟨rfl, rfl⟩
    ·have eK : j = dd.cons.length := by omega
     refine bg (fun g6 dT mE => ?_)
     have Ld := ab.le_trans k1 dT
     have hV := zb (pos := 0) (eG.mono Ld) (FF.mono Ld) mE (k5.mono dT)
     refine wz.i.b.V.G.c.d.D.m.m.C.z ?_
     refine bp [_] rfl (ay 2 rfl rfl rL) sC ⟨_, rfl, eS 0 x acc, i5, ⟨_, rfl, hV⟩, .case 0 x acc gx (fun h => by rw [h] at k3; simp at k3; omega) (fun a ha => ⟨(k6 a ha).1, fun v hv => ((k6 a ha).2.2.1 v hv).1⟩) (fun a ha => (k6 a ha).2.2.2.2.1), ?_, rfl, k7⟩
     have n7 := Ue (B := bE d') acc oM (fun a ha => ⟨(k6 a ha).2.1, fun v hv => ((k6 a ha).2.2.1 v hv).2, (k6 a ha).2.2.2.1, (k6 a ha).2.2.2.2.2⟩)
     have e3 : kC.length = 4 ∧ kP.length = 2 ∧ iD.length = 3 := by decide
     have aEZ : acc.length * (16 + bE d') ≤ 2 * (16 + bE d') := Nat.mul_le_mul_right _ oM
     rw [sS]
     simp only [List.length_append, List.length_cons]
     omega
 ·intro K hK
  have Ui : k.tmod 5 = k % 5 := Int.tmod_eq_emod_of_nonneg gW
  refine wz.b.a.a.c.z ?_
  refine an rfl (fun h1 => ?_) (fun h1 => ?_)
  ·refine wz.b.a.Cg.a.r.z ?_
   exact hK (k.tmod 5) _ ⟨oM, oM, fun h5 => by rw [Ui] at h5; omega⟩ ⟨rfl, rfl, rfl, rfl, rfl, trivial⟩
  ·refine wz.d.j.z ?_
   exact hK k _ ⟨gW, fb, fun _ => by omega⟩ ⟨rfl, rfl, rfl, rfl, rfl, trivial⟩
theorem Le (ar : List Int) (b : Nat) : ∀ (d : Nat), d ≤ 1000 → ∀ g i lv ds dv, pV g ar lv ds dv → i ≤ ar.length → cR prog 53 [ptr b 0, dv, .int .i64 d] g (c8 b lv i) (FA ar b lv d)
 | 0, hd, g, i, lv, ds, dv, h, hi => Lb ar b 0 hd (fun d' e => by omega) g i lv ds dv h hi
 | d + 1, hd, g, i, lv, ds, dv, h, hi => by
  refine Lb ar b (d + 1) hd (fun d' e => ?_) g i lv ds dv h hi
  have e' : d' = d := by omega
  subst e'
  exact Le ar b d' oM
end Go.Proofs.YtlnjfkfojkgiiaaGreatDoor
