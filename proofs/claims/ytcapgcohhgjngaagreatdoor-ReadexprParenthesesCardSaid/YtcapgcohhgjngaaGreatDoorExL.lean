/- The walks of package readexpr: applied, expr. -/
import Derived.Test.YtcapgcohhgjngaaGreatDoorK18
namespace Go.Proofs.YtcapgcohhgjngaaGreatDoor
open Go Go.Eng Go.Th Go.Proofs
set_option maxRecDepth 10000
set_option maxHeartbeats 4000000
attribute [local irreducible] wpList Code.wp Run bodyPost Go.Eng.Ends Exit.then Exit.inBlock Again Wq Kq
/-- The program's reader with the error that it has handed back, if any. -/
inductive ES where
  | go (j : Nat)
  | err (v : Value) (j : Nat) (p : Int)
def ES.val : ES → Value
  | .go _ => .nilIface
  | .err v _ _ => v
def ES.res (b : Nat) (lv : Value) : ES → Res
  | .go j => rdE b lv j 0
  | .err _ j p => rdE b lv j p
def ES.left (l : List Tok) : ES → Nat
  | .go j => l.length - j + 1
  | .err _ _ _ => 0
def AppE (l : List Tok) (cr : ER) (x : Ex) : ES → Prop
  | .go j => j ≤ l.length ∧ cr = eread l (.apps x) j
  | .err v j p => ErrV v ∧ j ≤ l.length ∧ cr = .error p
def appRes (l : List Tok) (i : Nat) : ER := match eread l .atom i with
  | .error p => .error p
  | .ok (e, j) => eread l (.apps e) j
theorem appRes_lt {l : List Tok} {i : Nat} {e : Ex} {j : Nat} (h : appRes l i = .ok (e, j)) : i < j := by
  unfold appRes at h
  cases hq : eread l .atom i with
  | error p => rw [hq] at h; cases h
  | ok q =>
    obtain ⟨x, k⟩ := q
    rw [hq] at h
    simp only at h
    have h1 := eread_lt rfl hq
    have h2 := eread_le h
    omega
/-- What an atom's reading leaves: a value, an error or none, the reader's state. -/
theorem postE_es {l : List Tok} {i b : Nat} {lv v : Value} {g' : Ghost} {r' : Res} {r : ER} (h : postE l i b lv r v g' r') : ∃ (ev : Value) (x : Ex) (s : ES), v = .tuple #[ev, s.val] ∧ ExV g' ev x ∧ r' = s.res b lv ∧ (match s with
    | .go j => r = .ok (x, j) ∧ i < j ∧ j ≤ l.length
    | .err v j p => ErrV v ∧ r = .error p ∧ j ≤ l.length) := by
  cases r with
  | error p =>
    obtain ⟨ev, e, er, rfl, he, her, j, hj, rfl⟩ := h
    exact ⟨ev, e, .err er j p, rfl, he, rfl, her, rfl, hj⟩
  | ok q =>
    obtain ⟨e, j⟩ := q
    obtain ⟨ev, rfl, he, rfl, h1, h2⟩ := h
    exact ⟨ev, e, .go j, rfl, he, rfl, rfl, h1, h2⟩
section
variable {l : List Tok} (hb : TB l) (m : Nat) (lv : Value) (b : Nat)
  (hA : ∀ g i, ErrT g → ToksAt g lv l → i ≤ l.length → l.length - i < m + 1 → SpecL Tryz.prog 59 [ptr b 0] g (rdE b lv i 0) (postE l i b lv (eread l .atom i)))
include hb hA
theorem eapplied_step (g : Ghost) (i : Nat) (hg : ErrT g) (hs : ToksAt g lv l) (hi : i ≤ l.length) (hm : l.length - i < m + 1) :
    SpecL Tryz.prog 98 [ptr b 0] g (rdE b lv i 0) (postE l i b lv (appRes l i)) := by
  have hb1 := hb.1
  refine spec_of_run Tryz.func98 rfl Tryz.ntmps98 rfl fun E hE => ?_
  refine r_sr ?_
  refine r_alloc rfl (fun b2 => ?_)
  refine r_ev rfl rfl ?_; refine r_nn ?_; refine r_sr ?_; refine r_ev rfl rfl ?_
  refine r_callL 1 rfl rfl rfl (hA g i hg hs hi hm) ?_
  rintro v g1 r' hw hle
  have hg1 := hg.mono hle
  have hs1 := hs.mono hle
  obtain ⟨ev, x, s, rfl, hx, rfl, hst⟩ := postE_es hw
  have hap : AppE l (appRes l i) x s := by
    unfold appRes
    cases s with
    | go j => obtain ⟨h1, h2, h3⟩ := hst; rw [h1]; exact ⟨h3, rfl⟩
    | err v j p => obtain ⟨h1, h2, h3⟩ := hst; rw [h2]; exact ⟨h1, h3, rfl⟩
  have hij : ∀ j, s = .go j → i < j := by rintro j rfl; exact hst.2.1
  have hcl : ∀ {e : Ex} {j : Nat}, appRes l i = .ok (e, j) → i < j := fun h => appRes_lt h
  generalize appRes l i = cr at hap hcl ⊢
  obtain ⟨a1, m1, c1, a2, m2, c2, a3, m3, c3, rfl, hx'⟩ := hx.form
  refine r_ev rfl rfl ?_; refine r_ev rfl rfl ?_; refine r_ev rfl rfl ?_
  refine r_alloc rfl (fun b4 => ?_)
  refine r_storeA 0 rfl rfl rfl rfl (by rfl) rfl rfl ?_; refine r_ev rfl rfl ?_; refine r_nn ?_
  refine r_cutG (ι := Ex × Value × Value × Value × ES × Ghost) (fun p => [(0, ptr b 0), (2, ptr b2 0), (4, ptr b4 0), (5, p.2.2.2.2.1.val)]) (fun p => p.2.2.2.2.2)
    (fun p => [.blk b4 34 (exCells p.1 p.2.1 p.2.2.1 p.2.2.2.1), .blk b2 34 noEc, p.2.2.2.2.1.res b lv])
    (fun p => Ghost.le g1 p.2.2.2.2.2 ∧ ExAt p.2.2.2.2.2 p.1 (exCells p.1 p.2.1 p.2.2.1 p.2.2.2.1) ∧ (match p.2.2.2.2.1 with | .go j => j ≤ l.length ∧ cr = .ok (p.1, j) | .err v j q => ErrV v ∧ j ≤ l.length ∧ cr = .error q)) ?_ ?_
  · rintro ⟨x1, v1, v2, v3, s1, g2⟩ ⟨k1, k2, k3⟩
    simp only at k1 k2 k3
    show Run E _ [(0, ptr b 0), (2, ptr b2 0), (4, ptr b4 0), (5, s1.val)] g2 [.blk b4 34 (exCells x1 v1 v2 v3), .blk b2 34 noEc, s1.res b lv] _
    have hf : ∃ a1 m1 c1 a2 m2 c2 a3 m3 c3, v1 = .slice a1 m1 c1 ∧ v2 = .slice a2 m2 c2 ∧ v3 = .slice a3 m3 c3 := by
      obtain ⟨a1, m1, c1, a2, m2, c2, a3, m3, c3, xk, xa, e, _⟩ := k2.form
      simp only [exCells, List.cons.injEq, and_true, true_and] at e
      exact ⟨a1, m1, c1, a2, m2, c2, a3, m3, c3, e.1, e.2.1, e.2.2⟩
    obtain ⟨a1, m1, c1, a2, m2, c2, a3, m3, c3, rfl, rfl, rfl⟩ := hf
    refine r_sr ?_; refine r_loadB 0 rfl rfl rfl (by rfl) ?_; refine r_ev rfl rfl ?_; refine r_storeA 1 rfl rfl rfl rfl (by rfl) (by repeat' (first | exact rfl | assumption | refine all_cons ?_ ?_)) rfl ?_; refine r_ev rfl rfl ?_; refine r_nn ?_; refine r_retc ?_
    refine r_ret2 [_] rfl (res_blk 1 rfl rfl (by rfl)) (.tmp rfl) (.cons _ (.cons _ (List.Sublist.refl _))) ⟨_, rfl, ?_⟩
    cases s1 with
    | err v j p =>
      obtain ⟨h0', h1', h2'⟩ := k3
      rw [h2']
      exact ⟨_, x1, _, rfl, ⟨_, rfl, k2⟩, h0', j, h1', rfl⟩
    | go j =>
      obtain ⟨h1', h2'⟩ := k3
      have := hcl h2'
      rw [h2']
      exact ⟨_, rfl, ⟨_, rfl, k2⟩, rfl, this, h1'⟩
  · intro K hK
    refine r_block ?_
    refine r_loop (ι := Ex × Value × Value × Value × ES × Ghost) (fun p => [(0, ptr b 0), (2, ptr b2 0), (4, ptr b4 0), (5, p.2.2.2.2.1.val)]) (fun p => p.2.2.2.2.2)
      (fun p => [.blk b4 34 (exCells p.1 p.2.1 p.2.2.1 p.2.2.2.1), .blk b2 34 noEc, p.2.2.2.2.1.res b lv])
      (fun p => Ghost.le g1 p.2.2.2.2.2 ∧ ExAt p.2.2.2.2.2 p.1 (exCells p.1 p.2.1 p.2.2.1 p.2.2.2.1) ∧ AppE l cr p.1 p.2.2.2.2.1 ∧ (∀ j, p.2.2.2.2.1 = .go j → i < j)) (fun p => p.2.2.2.2.1.left l)
      (x, .slice a1 m1 c1, .slice a2 m2 c2, .slice a3 m3 c3, s, g1) ⟨Ghost.le_refl _, hx', hap, hij⟩ ⟨rfl, rfl, rfl, rfl, trivial⟩ rfl rfl ?_
    rintro ⟨x1, v1, v2, v3, s1, g2⟩ ⟨k1, k2, k3, k4⟩
    simp only at k1 k2 k3 k4
    show Run E _ [(0, ptr b 0), (2, ptr b2 0), (4, ptr b4 0), (5, s1.val)] g2 [.blk b4 34 (exCells x1 v1 v2 v3), .blk b2 34 noEc, s1.res b lv] _
    have hf : ∃ a1 m1 c1 a2 m2 c2 a3 m3 c3, v1 = .slice a1 m1 c1 ∧ v2 = .slice a2 m2 c2 ∧ v3 = .slice a3 m3 c3 := by
      obtain ⟨a1, m1, c1, a2, m2, c2, a3, m3, c3, xk, xa, e, _⟩ := k2.form
      simp only [exCells, List.cons.injEq, and_true, true_and] at e
      exact ⟨a1, m1, c1, a2, m2, c2, a3, m3, c3, e.1, e.2.1, e.2.2⟩
    obtain ⟨e1, n1, d1, e2, n2, d2, e3, n3, d3, rfl, rfl, rfl⟩ := hf
    have hs2 := hs1.mono k1
    have hg2 := hg1.mono k1
    obtain ⟨la, lc, rfl⟩ := slForm2 hs
    cases s1 with
    | err v j p =>
      obtain ⟨⟨t, u, rfl, her⟩, h1', h2'⟩ := k3
      unfold ES.val ES.res
      simp only
      refine r_seq ?_; refine r_seq ?_
      refine h_beginE [] mixed (fun hG => ?_)
      refine h_takeX 0 rfl (by kernel_rfl) rfl hG (by first | exact Ghost.le_refl _ | assumption) (by repeat' (first | exact List.nil_sublist _ | refine List.Sublist.cons_cons _ ?_ | refine List.Sublist.cons _ ?_)) ?_; refine ⟨_, (val_ev rfl), ?_⟩
      refine h_takeX 1 rfl (by kernel_rfl) rfl hG (by first | exact Ghost.le_refl _ | assumption) (by repeat' (first | exact List.nil_sublist _ | refine List.Sublist.cons_cons _ ?_ | refine List.Sublist.cons _ ?_)) ⟨_, (val_eql_nil_held rfl), ?_⟩
      refine h_takeX 2 rfl (by kernel_rfl) rfl hG (by first | exact Ghost.le_refl _ | assumption) (by repeat' (first | exact List.nil_sublist _ | refine List.Sublist.cons_cons _ ?_ | refine List.Sublist.cons _ ?_)) ?_; refine ⟨_, (val_ev rfl), ?_⟩; refine h_pass 3 rfl rfl rfl (by kernel_rfl) rfl hG (by first | exact Ghost.le_refl _ | assumption) (by repeat' (first | exact List.nil_sublist _ | refine List.Sublist.cons_cons _ ?_ | refine List.Sublist.cons _ ?_)) ?_; refine h_pass 4 rfl rfl rfl (by kernel_rfl) rfl hG (by first | exact Ghost.le_refl _ | assumption) (by repeat' (first | exact List.nil_sublist _ | refine List.Sublist.cons_cons _ ?_ | refine List.Sublist.cons _ ?_)) ?_; refine h_pass 5 rfl rfl rfl (by kernel_rfl) rfl hG (by first | exact Ghost.le_refl _ | assumption) (by repeat' (first | exact List.nil_sublist _ | refine List.Sublist.cons_cons _ ?_ | refine List.Sublist.cons _ ?_)) ?_; refine h_pass 6 rfl rfl rfl (by kernel_rfl) rfl hG (by first | exact Ghost.le_refl _ | assumption) (by repeat' (first | exact List.nil_sublist _ | refine List.Sublist.cons_cons _ ?_ | refine List.Sublist.cons _ ?_)) ?_; refine h_pass 7 rfl rfl rfl (by kernel_rfl) rfl hG (by first | exact Ghost.le_refl _ | assumption) (by repeat' (first | exact List.nil_sublist _ | refine List.Sublist.cons_cons _ ?_ | refine List.Sublist.cons _ ?_)) ?_; refine h_pass 8 rfl rfl rfl (by kernel_rfl) rfl hG (by first | exact Ghost.le_refl _ | assumption) (by repeat' (first | exact List.nil_sublist _ | refine List.Sublist.cons_cons _ ?_ | refine List.Sublist.cons _ ?_)) ?_; refine h_pass 9 rfl rfl rfl (by kernel_rfl) rfl hG (by first | exact Ghost.le_refl _ | assumption) (by repeat' (first | exact List.nil_sublist _ | refine List.Sublist.cons_cons _ ?_ | refine List.Sublist.cons _ ?_)) ?_; refine h_pass 10 rfl rfl rfl (by kernel_rfl) rfl hG (by first | exact Ghost.le_refl _ | assumption) (by repeat' (first | exact List.nil_sublist _ | refine List.Sublist.cons_cons _ ?_ | refine List.Sublist.cons _ ?_)) ?_; refine h_pass 11 rfl rfl rfl (by kernel_rfl) rfl hG (by first | exact Ghost.le_refl _ | assumption) (by repeat' (first | exact List.nil_sublist _ | refine List.Sublist.cons_cons _ ?_ | refine List.Sublist.cons _ ?_)) ?_; refine h_pass 12 rfl rfl rfl (by kernel_rfl) rfl hG (by first | exact Ghost.le_refl _ | assumption) (by repeat' (first | exact List.nil_sublist _ | refine List.Sublist.cons_cons _ ?_ | refine List.Sublist.cons _ ?_)) ?_; refine h_takeX 13 rfl (by kernel_rfl) rfl hG (by first | exact Ghost.le_refl _ | assumption) (by repeat' (first | exact List.nil_sublist _ | refine List.Sublist.cons_cons _ ?_ | refine List.Sublist.cons _ ?_)) ?_; refine ⟨_, (val_ev rfl), ?_⟩; refine h_takeX 14 rfl (by kernel_rfl) rfl hG (by first | exact Ghost.le_refl _ | assumption) (by repeat' (first | exact List.nil_sublist _ | refine List.Sublist.cons_cons _ ?_ | refine List.Sublist.cons _ ?_)) ?_; refine ⟨_, (val_ev rfl), ?_⟩; refine h_pass 15 rfl rfl rfl (by kernel_rfl) rfl hG (by first | exact Ghost.le_refl _ | assumption) (by repeat' (first | exact List.nil_sublist _ | refine List.Sublist.cons_cons _ ?_ | refine List.Sublist.cons _ ?_)) ?_; refine h_pass 16 rfl rfl rfl (by kernel_rfl) rfl hG (by first | exact Ghost.le_refl _ | assumption) (by repeat' (first | exact List.nil_sublist _ | refine List.Sublist.cons_cons _ ?_ | refine List.Sublist.cons _ ?_)) ?_; refine h_pass 17 rfl rfl rfl (by kernel_rfl) rfl hG (by first | exact Ghost.le_refl _ | assumption) (by repeat' (first | exact List.nil_sublist _ | refine List.Sublist.cons_cons _ ?_ | refine List.Sublist.cons _ ?_)) ?_; refine h_pass 18 rfl rfl rfl (by kernel_rfl) rfl hG (by first | exact Ghost.le_refl _ | assumption) (by repeat' (first | exact List.nil_sublist _ | refine List.Sublist.cons_cons _ ?_ | refine List.Sublist.cons _ ?_)) ?_; refine h_pass 19 rfl rfl rfl (by kernel_rfl) rfl hG (by first | exact Ghost.le_refl _ | assumption) (by repeat' (first | exact List.nil_sublist _ | refine List.Sublist.cons_cons _ ?_ | refine List.Sublist.cons _ ?_)) ?_; refine h_pass 20 rfl rfl rfl (by kernel_rfl) rfl hG (by first | exact Ghost.le_refl _ | assumption) (by repeat' (first | exact List.nil_sublist _ | refine List.Sublist.cons_cons _ ?_ | refine List.Sublist.cons _ ?_)) ?_; refine h_pass 21 rfl rfl rfl (by kernel_rfl) rfl hG (by first | exact Ghost.le_refl _ | assumption) (by repeat' (first | exact List.nil_sublist _ | refine List.Sublist.cons_cons _ ?_ | refine List.Sublist.cons _ ?_)) ?_; refine h_pass 22 rfl rfl rfl (by kernel_rfl) rfl hG (by first | exact Ghost.le_refl _ | assumption) (by repeat' (first | exact List.nil_sublist _ | refine List.Sublist.cons_cons _ ?_ | refine List.Sublist.cons _ ?_)) ?_; refine h_pass 23 rfl rfl rfl (by kernel_rfl) rfl hG (by first | exact Ghost.le_refl _ | assumption) (by repeat' (first | exact List.nil_sublist _ | refine List.Sublist.cons_cons _ ?_ | refine List.Sublist.cons _ ?_)) ?_; refine h_pass 24 rfl rfl rfl (by kernel_rfl) rfl hG (by first | exact Ghost.le_refl _ | assumption) (by repeat' (first | exact List.nil_sublist _ | refine List.Sublist.cons_cons _ ?_ | refine List.Sublist.cons _ ?_)) ?_; refine h_pass 25 rfl rfl rfl (by kernel_rfl) rfl hG (by first | exact Ghost.le_refl _ | assumption) (by repeat' (first | exact List.nil_sublist _ | refine List.Sublist.cons_cons _ ?_ | refine List.Sublist.cons _ ?_)) ?_; refine h_takeX 26 rfl (by kernel_rfl) rfl hG (by first | exact Ghost.le_refl _ | assumption) (by repeat' (first | exact List.nil_sublist _ | refine List.Sublist.cons_cons _ ?_ | refine List.Sublist.cons _ ?_)) ?_; refine ⟨_, (val_ev rfl), ?_⟩
      refine h_done (by kernel_rfl) ?_
      refine r_then_normal ?_; refine r_cond_false rfl ?_; refine r_exit ?_; refine r_then_exit ?_; refine r_then_exit ?_; refine r_in_exit ?_; refine r_then_normal ?_
      exact hK (x1, .slice e1 n1 d1, .slice e2 n2 d2, .slice e3 n3 d3, .err _ j p, g2) _ ⟨k1, k2, ⟨t, u, rfl, her⟩, h1', h2'⟩ ⟨rfl, rfl, rfl, rfl, trivial⟩
    | go j =>
      obtain ⟨h1', h2'⟩ := k3
      have hij' := k4 j rfl
      rw [eread_step] at h2'
      simp only [estep] at h2'
      unfold ES.val ES.res
      simp only
      refine r_seq ?_; refine r_seq ?_
      -- STOPC
      refine h_beginE [] mixed (fun hG => ?_)
      refine h_takeX 0 rfl (by kernel_rfl) rfl hG (by first | exact Ghost.le_refl _ | assumption) (by repeat' (first | exact List.nil_sublist _ | refine List.Sublist.cons_cons _ ?_ | refine List.Sublist.cons _ ?_)) ?_; refine ⟨_, (val_ev rfl), ?_⟩
      refine h_takeX 1 rfl (by kernel_rfl) rfl hG (by first | exact Ghost.le_refl _ | assumption) (by repeat' (first | exact List.nil_sublist _ | refine List.Sublist.cons_cons _ ?_ | refine List.Sublist.cons _ ?_)) ⟨_, (val_eql_nil_nil rfl), ?_⟩
      refine h_takeX 2 rfl (by kernel_rfl) rfl hG (by first | exact Ghost.le_refl _ | assumption) (by repeat' (first | exact List.nil_sublist _ | refine List.Sublist.cons_cons _ ?_ | refine List.Sublist.cons _ ?_)) ?_; refine ⟨_, (val_ev rfl), ?_⟩; refine h_takeGX 3 rfl rfl (by kernel_rfl) rfl hG (by first | exact Ghost.le_refl _ | assumption) (by repeat' (first | exact List.nil_sublist _ | refine List.Sublist.cons_cons _ ?_ | refine List.Sublist.cons _ ?_)) ?_; refine ⟨_, (val_ev rfl), ?_⟩; refine h_takeGX 4 rfl rfl (by kernel_rfl) rfl hG (by first | exact Ghost.le_refl _ | assumption) (by repeat' (first | exact List.nil_sublist _ | refine List.Sublist.cons_cons _ ?_ | refine List.Sublist.cons _ ?_)) ?_; refine ⟨_, (val_ev rfl), ?_⟩; refine h_takeGX 5 rfl rfl (by kernel_rfl) rfl hG (by first | exact Ghost.le_refl _ | assumption) (by repeat' (first | exact List.nil_sublist _ | refine List.Sublist.cons_cons _ ?_ | refine List.Sublist.cons _ ?_)) ?_; refine ⟨_, (val_fieldAddr rfl), ?_⟩; refine h_takeGX 6 rfl rfl (by kernel_rfl) rfl hG (by first | exact Ghost.le_refl _ | assumption) (by repeat' (first | exact List.nil_sublist _ | refine List.Sublist.cons_cons _ ?_ | refine List.Sublist.cons _ ?_)) ?_; refine ⟨_, (val_loadB1 2 rfl rfl rfl), ?_⟩; refine h_takeGX 7 rfl rfl (by kernel_rfl) rfl hG (by first | exact Ghost.le_refl _ | assumption) (by repeat' (first | exact List.nil_sublist _ | refine List.Sublist.cons_cons _ ?_ | refine List.Sublist.cons _ ?_)) ?_; refine ⟨_, (val_ev rfl), ?_⟩; refine h_takeGX 8 rfl rfl (by kernel_rfl) rfl hG (by first | exact Ghost.le_refl _ | assumption) (by repeat' (first | exact List.nil_sublist _ | refine List.Sublist.cons_cons _ ?_ | refine List.Sublist.cons _ ?_)) ?_; refine ⟨_, (val_ev rfl), ?_⟩; refine h_takeGX 9 rfl rfl (by kernel_rfl) rfl hG (by first | exact Ghost.le_refl _ | assumption) (by repeat' (first | exact List.nil_sublist _ | refine List.Sublist.cons_cons _ ?_ | refine List.Sublist.cons _ ?_)) ?_; refine ⟨_, (val_fieldAddr rfl), ?_⟩; refine h_takeGX 10 rfl rfl (by kernel_rfl) rfl hG (by first | exact Ghost.le_refl _ | assumption) (by repeat' (first | exact List.nil_sublist _ | refine List.Sublist.cons_cons _ ?_ | refine List.Sublist.cons _ ?_)) ?_; refine ⟨_, (val_loadB1 2 rfl rfl rfl), ?_⟩; refine h_takeGX 11 rfl rfl (by kernel_rfl) rfl hG (by first | exact Ghost.le_refl _ | assumption) (by repeat' (first | exact List.nil_sublist _ | refine List.Sublist.cons_cons _ ?_ | refine List.Sublist.cons _ ?_)) ?_; refine ⟨_, (val_len_sl rfl), ?_⟩; refine h_takeGX 12 rfl rfl (by kernel_rfl) rfl hG (by first | exact Ghost.le_refl _ | assumption) (by repeat' (first | exact List.nil_sublist _ | refine List.Sublist.cons_cons _ ?_ | refine List.Sublist.cons _ ?_)) ?_; refine ⟨_, (val_ev rfl), ?_⟩; refine h_takeX 13 rfl (by kernel_rfl) rfl hG (by first | exact Ghost.le_refl _ | assumption) (by repeat' (first | exact List.nil_sublist _ | refine List.Sublist.cons_cons _ ?_ | refine List.Sublist.cons _ ?_)) ?_; refine ⟨_, (val_ev rfl), ?_⟩; refine h_takeX 14 rfl (by kernel_rfl) rfl hG (by first | exact Ghost.le_refl _ | assumption) (by repeat' (first | exact List.nil_sublist _ | refine List.Sublist.cons_cons _ ?_ | refine List.Sublist.cons _ ?_)) ?_; refine ⟨_, (val_ev rfl), ?_⟩
      refine r_dec 26 rfl (fun hlt => ?_) (fun hlt => ?_)
      · have hlt' : j < l.length := by omega
        obtain ⟨b0, off, cap, hsl, hxx⟩ := hs2.held hlt'
        cases hsl
        refine h_takeGX 15 rfl rfl (by kernel_rfl) rfl hG (by first | exact Ghost.le_refl _ | assumption) (by repeat' (first | exact List.nil_sublist _ | refine List.Sublist.cons_cons _ ?_ | refine List.Sublist.cons _ ?_)) ?_; refine ⟨_, (val_ev rfl), ?_⟩; refine h_takeGX 16 rfl rfl (by kernel_rfl) rfl hG (by first | exact Ghost.le_refl _ | assumption) (by repeat' (first | exact List.nil_sublist _ | refine List.Sublist.cons_cons _ ?_ | refine List.Sublist.cons _ ?_)) ?_; refine ⟨_, (val_ev rfl), ?_⟩; refine h_takeGX 17 rfl rfl (by kernel_rfl) rfl hG (by first | exact Ghost.le_refl _ | assumption) (by repeat' (first | exact List.nil_sublist _ | refine List.Sublist.cons_cons _ ?_ | refine List.Sublist.cons _ ?_)) ?_; refine ⟨_, (val_fieldAddr rfl), ?_⟩; refine h_takeGX 18 rfl rfl (by kernel_rfl) rfl hG (by first | exact Ghost.le_refl _ | assumption) (by repeat' (first | exact List.nil_sublist _ | refine List.Sublist.cons_cons _ ?_ | refine List.Sublist.cons _ ?_)) ?_; refine ⟨_, (val_loadB1 2 rfl rfl rfl), ?_⟩; refine h_takeGX 19 rfl rfl (by kernel_rfl) rfl hG (by first | exact Ghost.le_refl _ | assumption) (by repeat' (first | exact List.nil_sublist _ | refine List.Sublist.cons_cons _ ?_ | refine List.Sublist.cons _ ?_)) ?_; refine ⟨_, (val_ev rfl), ?_⟩; refine h_takeGX 20 rfl rfl (by kernel_rfl) rfl hG (by first | exact Ghost.le_refl _ | assumption) (by repeat' (first | exact List.nil_sublist _ | refine List.Sublist.cons_cons _ ?_ | refine List.Sublist.cons _ ?_)) ?_; refine ⟨_, (val_ev rfl), ?_⟩; refine h_takeGX 21 rfl rfl (by kernel_rfl) rfl hG (by first | exact Ghost.le_refl _ | assumption) (by repeat' (first | exact List.nil_sublist _ | refine List.Sublist.cons_cons _ ?_ | refine List.Sublist.cons _ ?_)) ?_; refine ⟨_, (val_fieldAddr rfl), ?_⟩; refine h_takeGX 22 rfl rfl (by kernel_rfl) rfl hG (by first | exact Ghost.le_refl _ | assumption) (by repeat' (first | exact List.nil_sublist _ | refine List.Sublist.cons_cons _ ?_ | refine List.Sublist.cons _ ?_)) ?_; refine ⟨_, (val_loadB1 2 rfl rfl rfl), ?_⟩
        refine h_takeGX 23 rfl rfl (by kernel_rfl) rfl hG (by first | exact Ghost.le_refl _ | assumption) (by repeat' (first | exact List.nil_sublist _ | refine List.Sublist.cons_cons _ ?_ | refine List.Sublist.cons _ ?_)) ⟨_, (val_indexAddr (j := j) rfl rfl rfl hlt'), ?_⟩
        refine h_takeGX 24 rfl rfl (by kernel_rfl) rfl hG (by first | exact Ghost.le_refl _ | assumption) (by repeat' (first | exact List.nil_sublist _ | refine List.Sublist.cons_cons _ ?_ | refine List.Sublist.cons _ ?_)) ⟨_, (val_load rfl (toks_rd hxx hlt') rfl), ?_⟩
        refine h_one 25 (by kernel_rfl) rfl ?_
        refine r_take rfl ?_
        refine r_callP rfl rfl (estarts_spec g2 l[j]) ?_
        refine r_nn ?_
        refine h_kept hG (by first | exact Ghost.le_refl _ | assumption) (by repeat' (first | exact List.nil_sublist _ | refine List.Sublist.cons_cons _ ?_ | refine List.Sublist.cons _ ?_)) ?_
        refine h_takeX 26 rfl (by kernel_rfl) rfl hG (by first | exact Ghost.le_refl _ | assumption) (by repeat' (first | exact List.nil_sublist _ | refine List.Sublist.cons_cons _ ?_ | refine List.Sublist.cons _ ?_)) ?_; refine ⟨_, (val_ev rfl), ?_⟩
        refine h_done (by kernel_rfl) ?_
        rw [startsE_at hlt'] at h2'
        cases hst : startsE l[j] with
        | false =>
          rw [hst] at h2'
          refine r_then_normal ?_; refine r_cond_false rfl ?_; refine r_exit ?_; refine r_then_exit ?_; refine r_then_exit ?_; refine r_in_exit ?_; refine r_then_normal ?_
          exact hK (x1, .slice e1 n1 d1, .slice e2 n2 d2, .slice e3 n3 d3, .go j, g2) _ ⟨k1, k2, h1', h2'⟩ ⟨rfl, rfl, rfl, rfl, trivial⟩
        | true =>
          rw [hst] at h2'
          simp only [if_true] at h2'
          refine r_then_normal ?_; refine r_cond_true rfl ?_; refine r_skip ?_; refine r_then_normal ?_; refine r_block ?_; refine r_sr ?_
          refine r_alloc rfl (fun b6 => ?_)
          refine r_nn ?_; refine r_sr ?_; refine r_ev rfl rfl ?_
          refine r_callL 3 rfl rfl rfl (hA g2 j hg2 hs2 h1' (by omega)) ?_
          rintro v g3 r' hw3 hle3
          obtain ⟨av, a, s3, rfl, ha, rfl, hst3⟩ := postE_es hw3
          have hap3 : AppE l cr (kidsE 5 x1.pos [] [x1, a]) s3 := by
            rw [h2']
            cases s3 with
            | go j => obtain ⟨h1, h2, h3⟩ := hst3; rw [h1]; exact ⟨h3, rfl⟩
            | err v j p => obtain ⟨h1, h2, h3⟩ := hst3; rw [h2]; exact ⟨h1, h3, rfl⟩
          have hij3 : ∀ j', s3 = .go j' → j < j' := by rintro j' rfl; exact hst3.2.1
          obtain ⟨q1, o1, p1, q2, o2, p2, q3, o3, p3, rfl, ha'⟩ := ha.form
          refine r_ev rfl rfl ?_; refine r_ev rfl rfl ?_; refine r_ev rfl rfl ?_; refine r_storeA 0 rfl rfl rfl rfl (by rfl) (by repeat' (first | exact rfl | assumption | refine all_cons ?_ ?_)) rfl ?_; refine r_ev rfl rfl ?_; refine r_nn ?_; refine r_region ?_; refine r_fieldAddr rfl rfl ?_; refine r_loadB1 1 rfl rfl rfl rfl ?_; refine r_loadB 1 rfl rfl rfl (by rfl) ?_; refine r_loadB 0 rfl rfl rfl (by rfl) ?_
          refine r_buildSlice rfl rfl (by rfl) (by rfl) (by rfl) (by rfl) (by rfl) (fun b10 => ?_)
          refine r_publishRow (fun g4 hg4 hs4 => ?_)
          have hle34 := Ghost.le_trans hle3 hg4
          refine r_build rfl rfl (by rfl) ?_; refine r_storeA 1 rfl rfl rfl rfl (by rfl) (by repeat' (first | exact rfl | assumption | refine all_cons ?_ ?_)) rfl ?_; refine r_nil ?_; refine r_in_normal ?_; refine r_then_normal ?_
          refine r_drop (own' := [_, _, _]) (.cons _ (List.Sublist.refl _)) ?_
          refine r_again (kidsE 5 x1.pos [] [x1, a], .slice (some ⟨b10, 0, none⟩) 2 2, .slice none 0 0, .slice none 0 0, s3, g4) ⟨Ghost.le_trans k1 hle34, ?_, hap3, fun j' h => Nat.lt_trans hij' (hij3 j' h)⟩ ?_ ⟨rfl, rfl, rfl, rfl, trivial⟩ rfl rfl
          · obtain ⟨cs, e, hh⟩ := kidsE_V g4 5 x1.pos [] hs4 (exs2 (k2.mono hle34) (ha'.mono hg4))
            simp only [Value.agg.injEq] at e
            have e' := congrArg Array.toList e
            simp only at e'
            rw [← e'] at hh
            exact hh
          · cases s3 with
            | err v j' p => simp only [ES.left]; omega
            | go j' =>
              have := hij3 j' rfl
              simp only [ES.left]; omega
      · have hst : startsEAt l j = false := by unfold startsEAt; rw [List.getElem?_eq_none (by omega)]
        rw [hst] at h2'
        simp only [Bool.false_eq_true, if_false] at h2'
        refine h_pass 15 rfl rfl rfl (by kernel_rfl) rfl hG (by first | exact Ghost.le_refl _ | assumption) (by repeat' (first | exact List.nil_sublist _ | refine List.Sublist.cons_cons _ ?_ | refine List.Sublist.cons _ ?_)) ?_; refine h_pass 16 rfl rfl rfl (by kernel_rfl) rfl hG (by first | exact Ghost.le_refl _ | assumption) (by repeat' (first | exact List.nil_sublist _ | refine List.Sublist.cons_cons _ ?_ | refine List.Sublist.cons _ ?_)) ?_; refine h_pass 17 rfl rfl rfl (by kernel_rfl) rfl hG (by first | exact Ghost.le_refl _ | assumption) (by repeat' (first | exact List.nil_sublist _ | refine List.Sublist.cons_cons _ ?_ | refine List.Sublist.cons _ ?_)) ?_; refine h_pass 18 rfl rfl rfl (by kernel_rfl) rfl hG (by first | exact Ghost.le_refl _ | assumption) (by repeat' (first | exact List.nil_sublist _ | refine List.Sublist.cons_cons _ ?_ | refine List.Sublist.cons _ ?_)) ?_; refine h_pass 19 rfl rfl rfl (by kernel_rfl) rfl hG (by first | exact Ghost.le_refl _ | assumption) (by repeat' (first | exact List.nil_sublist _ | refine List.Sublist.cons_cons _ ?_ | refine List.Sublist.cons _ ?_)) ?_; refine h_pass 20 rfl rfl rfl (by kernel_rfl) rfl hG (by first | exact Ghost.le_refl _ | assumption) (by repeat' (first | exact List.nil_sublist _ | refine List.Sublist.cons_cons _ ?_ | refine List.Sublist.cons _ ?_)) ?_; refine h_pass 21 rfl rfl rfl (by kernel_rfl) rfl hG (by first | exact Ghost.le_refl _ | assumption) (by repeat' (first | exact List.nil_sublist _ | refine List.Sublist.cons_cons _ ?_ | refine List.Sublist.cons _ ?_)) ?_; refine h_pass 22 rfl rfl rfl (by kernel_rfl) rfl hG (by first | exact Ghost.le_refl _ | assumption) (by repeat' (first | exact List.nil_sublist _ | refine List.Sublist.cons_cons _ ?_ | refine List.Sublist.cons _ ?_)) ?_; refine h_pass 23 rfl rfl rfl (by kernel_rfl) rfl hG (by first | exact Ghost.le_refl _ | assumption) (by repeat' (first | exact List.nil_sublist _ | refine List.Sublist.cons_cons _ ?_ | refine List.Sublist.cons _ ?_)) ?_; refine h_pass 24 rfl rfl rfl (by kernel_rfl) rfl hG (by first | exact Ghost.le_refl _ | assumption) (by repeat' (first | exact List.nil_sublist _ | refine List.Sublist.cons_cons _ ?_ | refine List.Sublist.cons _ ?_)) ?_; refine h_pass 25 rfl rfl rfl (by kernel_rfl) rfl hG (by first | exact Ghost.le_refl _ | assumption) (by repeat' (first | exact List.nil_sublist _ | refine List.Sublist.cons_cons _ ?_ | refine List.Sublist.cons _ ?_)) ?_; refine h_takeX 26 rfl (by kernel_rfl) rfl hG (by first | exact Ghost.le_refl _ | assumption) (by repeat' (first | exact List.nil_sublist _ | refine List.Sublist.cons_cons _ ?_ | refine List.Sublist.cons _ ?_)) ?_; refine ⟨_, (val_ev rfl), ?_⟩
        refine h_done (by kernel_rfl) ?_
        refine r_then_normal ?_; refine r_cond_false rfl ?_; refine r_exit ?_; refine r_then_exit ?_; refine r_then_exit ?_; refine r_in_exit ?_; refine r_then_normal ?_
        exact hK (x1, .slice e1 n1 d1, .slice e2 n2 d2, .slice e3 n3 d3, .go j, g2) _ ⟨k1, k2, h1', h2'⟩ ⟨rfl, rfl, rfl, rfl, trivial⟩
end
end Go.Proofs.YtcapgcohhgjngaaGreatDoor
-- sum bb83209dab5a2a29
