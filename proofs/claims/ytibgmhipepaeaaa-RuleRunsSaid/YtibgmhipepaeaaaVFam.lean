/-
  WEAKEST CONDITIONS of some functions of this program, printed by a program.
-/
import Derived.Test.YtibgmhipepaeaaaVAbb
import Derived.Test.YtibgmhipepaeaaaRows
set_option linter.unusedVariables false
set_option maxRecDepth 100000
namespace Go.Am
open Go.Proofs
theorem vc_family_place {K : Xs} (hk : K 54 = none) (a : Option Addr) (b d : Nat) (e : Int) (h : AH) (Q : Value → AH → Prop) (H :
 ∃ f : Int → Nat → AH → Prop, (∃ n, f 0 n h) ∧
 ∀ (g : Nat) (i : AH) (j : Int), f j g i →
 ((j : Int) < ((b : Nat) : Int) → derefP a fun k l => (((0 : Int) ≤ j) ∧ ((j : Int) < ((b : Nat) : Int)) ∧
 (∃ m, ld1 i k (l + Int.toNat j * 11) = some (.int .u64 m) ∧
 (((m : Int) = e → Q (.int .i64 j) i) ∧
 (¬ (m : Int) = e → ∀ o : Int, o = IntKind.wrap .i64 (j + 1) → ∃ p, p < g ∧ f o p i))))) ∧
 (¬ (j : Int) < ((b : Nat) : Int) → Q (.int .i64 (-1)) i)) :
 Wf Try.prog K 54 [.slice a b d, .int .u64 e] h Q :=
  vcF_sound (hs := [(2, [(8, .int .i64 0)])]) hk (Eq.mpr (by kernel_rfl) H)
theorem vc_family_Floor {K : Xs} (hk : K 19 = none) (a : Option Addr) (b d : Nat) (e : Int) (h : AH) (Q : Value → AH → Prop) (H :
 Wf Try.prog K 54 [.slice a b d, .int .u64 e] h fun f g =>
 (∃ i, f = (.int .i64 i) ∧
 (((i : Int) < 0 → Q (.int .u64 0) g) ∧
 (¬ (i : Int) < 0 → derefP a fun j k => (((0 : Int) ≤ i) ∧ ((i : Int) < ((b : Nat) : Int)) ∧
 (∃ l, ld1 g j ((k + Int.toNat i * 11) + 4) = some (.int .u64 l) ∧
 (((l : Int) = 0 → Q (.int .u64 0) g) ∧
 (¬ (l : Int) = 0 → derefP a fun m n => (((0 : Int) ≤ i) ∧ ((i : Int) < ((b : Nat) : Int)) ∧
 (∃ o, ld1 g m ((n + Int.toNat i * 11) + 4) = some (.int .u64 o) ∧
 (Wf Try.prog K 54 [.slice a b d, .int .u64 o] g fun p q =>
 (∃ r, p = (.int .i64 r) ∧
 (((r : Int) < 0 → Q (.int .u64 0) q) ∧
 (¬ (r : Int) < 0 → derefP a fun s t => (((0 : Int) ≤ r) ∧ ((r : Int) < ((b : Nat) : Int)) ∧
 (∃ u, ld1 q s ((t + Int.toNat r * 11) + 5) = some (.int .u64 u) ∧
 (Q (.int .u64 u) q))))))))))))))))) :
 Wf Try.prog K 19 [.slice a b d, .int .u64 e] h Q :=
  vcF_sound (hs := []) hk (Eq.mpr (by kernel_rfl) H)
theorem vc_family_callOf {K : Xs} (hk : K 45 = none) (a : Option Addr) (h : AH) (Q : Value → AH → Prop) (H :
 ∀ b, b = h.alloc (.cells [.int .u64 0, (.string (ByteArray.mk #[]))] 73 false) →
 derefP a fun d e => (((ld1 b d (e + 2) = some (.bool true) ∧
 (derefP a fun f g => (∃ i, ld1 b f (g + 3) = some (.int .u64 i) ∧
 (derefP a fun j k => (∃ l, ld1 b j (k + 1) = some (.string l) ∧
 ((2 = 2) ∧ ∃ m, stN b h.next 0 [.int .u64 i, .string l] = some m ∧
 (∃ n o, ldN m h.next 0 2 = some [.int .u64 n, .string o] ∧
 (Q (.agg #[.int .u64 n, .string o]) m)))))))) ∨ (ld1 b d (e + 2) = some (.bool false) ∧
 (derefP a fun p q => (∃ r, ld1 b p (q + 1) = some (.string r) ∧
 ((2 = 2) ∧ ∃ s, stN b h.next 0 [.int .u64 0, .string r] = some s ∧
 (∃ t u, ldN s h.next 0 2 = some [.int .u64 t, .string u] ∧
 (Q (.agg #[.int .u64 t, .string u]) s))))))))) :
 Wf Try.prog K 45 [.pointer a] h Q :=
  vcF_sound (hs := []) hk (Eq.mpr (by kernel_rfl) H)
theorem vc_family_elderRight {K : Xs} (hk : K 46 = none) (a : Option Addr) (b d : Nat) (e : Option Addr) (h : AH) (Q : Value → AH → Prop) (H :
 derefP e fun f g => (∃ i, ld1 h f (g + 4) = some (.int .u64 i) ∧
 (((i : Int) = 0 → derefP e fun j k => (∃ l m o, ld1 h j (k + 10) = some (.slice l m o) ∧
 (∃ p : Int → Nat → AH → Prop, (∃ n, p 0 n h) ∧
 ∀ (q : Nat) (r : AH) (s : Int), p s q r →
 ((s : Int) < ((m : Nat) : Int) → derefP l fun t u => (((0 : Int) ≤ s) ∧ ((s : Int) < ((m : Nat) : Int)) ∧
 (∃ v w x, ldN r t (u + Int.toNat s * 3) 3 = some (qL v w x) ∧
 (∀ y, y = r.alloc (.cells [.int .i64 0, .int .u64 0, .int .u32 0] 25 false) →
 (3 = 3) ∧ ∃ z, stN y r.next 0 (qL v w x) = some z ∧
 (∃ aa, ld1 z r.next 1 = some (.int .u64 aa) ∧
 (((0 : Int) < aa → Q (.bool false) z) ∧
 (¬ (0 : Int) < aa → ∀ ab : Int, ab = IntKind.wrap .i64 (s + 1) → ∃ ac, ac < q ∧ p ab ac z))))))) ∧
 (¬ (s : Int) < ((m : Nat) : Int) → Q (.bool true) r)))) ∧
 (¬ (i : Int) = 0 → derefP e fun ad ae => (∃ af, ld1 h ad (ae + 4) = some (.int .u64 af) ∧
 (Wf Try.prog K 54 [.slice a b d, .int .u64 af] h fun ag ah =>
 (∃ ai, ag = (.int .i64 ai) ∧
 (((ai : Int) < 0 → Q (.bool false) ah) ∧
 (¬ (ai : Int) < 0 → derefP a fun aj ak => (((0 : Int) ≤ ai) ∧ ((ai : Int) < ((b : Nat) : Int)) ∧
 (((ld1 ah aj ((ak + Int.toNat ai * 11) + 2) = some (.bool true) ∧
 (derefP a fun al am => (((0 : Int) ≤ ai) ∧ ((ai : Int) < ((b : Nat) : Int)) ∧
 (∃ an, ld1 ah al ((am + Int.toNat ai * 11) + 5) = some (.int .u64 an) ∧
 (derefP e fun ao ap => (((ld1 ah ao (ap + 2) = some (.bool true) ∧
 (derefP e fun aq ar => (∃ au, ld1 ah aq (ar + 5) = some (.int .u64 au) ∧
 (((au : Int) ≤ an → Q (.bool false) ah) ∧
 (¬ (au : Int) ≤ an → derefP e fun av aw => (∃ ax ay az, ld1 ah av (aw + 10) = some (.slice ax ay az) ∧
 (∃ a0 : Int → Nat → AH → Prop, (∃ n, a0 0 n ah) ∧
 ∀ (a1 : Nat) (a2 : AH) (a3 : Int), a0 a3 a1 a2 →
 ((a3 : Int) < ((ay : Nat) : Int) → derefP ax fun a4 a5 => (((0 : Int) ≤ a3) ∧ ((a3 : Int) < ((ay : Nat) : Int)) ∧
 (∃ a6 a7 a8, ldN a2 a4 (a5 + Int.toNat a3 * 3) 3 = some (qL a6 a7 a8) ∧
 (∀ a9, a9 = a2.alloc (.cells [.int .i64 0, .int .u64 0, .int .u32 0] 25 false) →
 (3 = 3) ∧ ∃ ba, stN a9 a2.next 0 (qL a6 a7 a8) = some ba ∧
 (∃ bb, ld1 ba a2.next 1 = some (.int .u64 bb) ∧
 (((an : Int) < bb → Q (.bool false) ba) ∧
 (¬ (an : Int) < bb → ∀ bc : Int, bc = IntKind.wrap .i64 (a3 + 1) → ∃ bd, bd < a1 ∧ a0 bc bd ba))))))) ∧
 (¬ (a3 : Int) < ((ay : Nat) : Int) → Q (.bool true) a2)))))))) ∨ (ld1 ah ao (ap + 2) = some (.bool false) ∧
 (derefP e fun be bf => (∃ bg bh bi, ld1 ah be (bf + 10) = some (.slice bg bh bi) ∧
 (∃ bj : Int → Nat → AH → Prop, (∃ n, bj 0 n ah) ∧
 ∀ (bk : Nat) (bl : AH) (bm : Int), bj bm bk bl →
 ((bm : Int) < ((bh : Nat) : Int) → derefP bg fun bn bo => (((0 : Int) ≤ bm) ∧ ((bm : Int) < ((bh : Nat) : Int)) ∧
 (∃ bp bq br, ldN bl bn (bo + Int.toNat bm * 3) 3 = some (qL bp bq br) ∧
 (∀ bs, bs = bl.alloc (.cells [.int .i64 0, .int .u64 0, .int .u32 0] 25 false) →
 (3 = 3) ∧ ∃ bt, stN bs bl.next 0 (qL bp bq br) = some bt ∧
 (∃ bu, ld1 bt bl.next 1 = some (.int .u64 bu) ∧
 (((an : Int) < bu → Q (.bool false) bt) ∧
 (¬ (an : Int) < bu → ∀ bv : Int, bv = IntKind.wrap .i64 (bm + 1) → ∃ bw, bw < bk ∧ bj bv bw bt))))))) ∧
 (¬ (bm : Int) < ((bh : Nat) : Int) → Q (.bool true) bl)))))))))))) ∨ (ld1 ah aj ((ak + Int.toNat ai * 11) + 2) = some (.bool false) ∧
 (Q (.bool false) ah)))))))))))))) :
 Wf Try.prog K 46 [.slice a b d, .pointer e] h Q :=
  vcF_sound (hs := [(10, [(52, .int .i64 0)])]) hk (Eq.mpr (by kernel_rfl) H)
theorem vc_family_ownerRight {K : Xs} (hk : K 47 = none) (a : Option Addr) (b d : Nat) (e : Option Addr) (h : AH) (Q : Value → AH → Prop) (H :
 ∀ f, f = h.alloc (.cells [.slice a b d] 34 false) →
 ∀ g, g = f.alloc (.cells [.pointer e] 77 false) →
 ∃ j : Option Addr, ld1 g f.next 0 = some (.pointer j) ∧
 (derefP j fun k l => (((ld1 g k (l + 2) = some (.bool true) ∧
 (∃ m n o, ld1 g h.next 0 = some (.slice m n o) ∧
 (∃ p : Option Addr, ld1 g f.next 0 = some (.pointer p) ∧
 (derefP p fun q r => (∃ s, ld1 g q (r + 3) = some (.int .u64 s) ∧
 (Wf Try.prog K 54 [.slice m n o, .int .u64 s] g fun t u =>
 (∃ v, t = (.int .i64 v) ∧
 (((v : Int) < 0 → Q (.bool false) u) ∧
 (¬ (v : Int) < 0 → ∃ w y z, ld1 u h.next 0 = some (.slice w y z) ∧
 (derefP w fun aa ab => (((0 : Int) ≤ v) ∧ ((v : Int) < ((y : Nat) : Int)) ∧
 (((ld1 u aa ((ab + Int.toNat v * 11) + 2) = some (.bool true) ∧
 (Q (.bool false) u)) ∨ (ld1 u aa ((ab + Int.toNat v * 11) + 2) = some (.bool false) ∧
 (∀ ac, ac = u.alloc (.cells [.int .i64 0] 3 false) →
 ∃ ad, st1 ac u.next 0 (.int .i64 0) = some ad ∧
 (∃ ae af ag, ld1 ad h.next 0 = some (.slice ae af ag) ∧
 (∃ ah : Option Addr, ld1 ad f.next 0 = some (.pointer ah) ∧
 (derefP ah fun ai aj => (∃ ak, ld1 ad ai aj = some (.int .u64 ak) ∧
 (Wf Try.prog K 55 [.slice ae af ag, .int .u64 ak] ad fun al am =>
 (∃ (an : FuncId) (cap32 : List Value), al = (.func (.func an) #[] cap32.toArray) ∧
 (∃ (ao : Nat → AH → Prop) (ap : AX → AH → Prop) (N35 : Nat) (item36 : Nat → List Value) (G39 aq : AH → AH → Prop),
 (K an = none ∧ ([34] : List Nat) = [34]) ∧
 (∀ i, i < N35 → ∃ ar, item36 i = [.int .i64 ar]) ∧
 (∀ g, g.next = am.next + 1 → (∀ c, c ≠ am.next → g.get c = am.get c) → ao 0 g) ∧
 (∀ i g au, ao i g → Near am.next g au → ao i au) ∧
 (∀ x g au, ap x g → Near am.next g au → ap x au) ∧
 (∀ i g au, ao i g → G39 g au → ao i au) ∧ (∀ x g au, ap x g → G39 g au → ap x au) ∧ (∀ g au, G39 g au → au.get am.next = g.get am.next) ∧
 (∀ (av : Nat) (aw : AH), av < N35 → ao av aw → (∃ L, aw.get am.next = some (.loop L)) → ∀ (ax : Int), item36 av = [.int .i64 ax] →
 AX.normal = AX.normal ∧ (aw.get am.next = aw.get am.next) ∧ ∀ ay, Near am.next aw ay → (∃ L, ay.get am.next = some (.loop L)) →
 ∃ az a0 a1, ld1 ay h.next 0 = some (.slice az a0 a1) ∧
 (derefP az fun a2 a3 => (((0 : Int) ≤ ax) ∧ ((ax : Int) < ((a0 : Nat) : Int)) ∧
 (∃ a4, ld1 ay a2 ((a3 + Int.toNat ax * 11) + 3) = some (.int .u64 a4) ∧
 (∃ a5 : Option Addr, ld1 ay f.next 0 = some (.pointer a5) ∧
 (derefP a5 fun a6 a7 => (∃ a8, ld1 ay a6 (a7 + 3) = some (.int .u64 a8) ∧
 (((a4 : Int) = a8 → ∃ a9, ld1 ay u.next 0 = some (.int .i64 a9) ∧
 (∀ ba : Int, ba = IntKind.wrap .i64 (a9 + 1) → ∃ bb, st1 ay u.next 0 (.int .i64 ba) = some bb ∧
 ((bb.get am.next = ay.get am.next ∧ ao (av + 1) bb ∧ ∀ bc, Near am.next bb bc → aq aw bc)))) ∧
 (¬ (a4 : Int) = a8 → (ay.get am.next = ay.get am.next ∧ ao (av + 1) ay ∧ ∀ bc, Near am.next ay bc → aq aw bc)))))))))) ∧
 (∀ (JJ57 : Nat → AH → Prop) (DD58 : AH → Prop), (∀ i g, JJ57 i g → ao i g) → (∀ i g au, JJ57 i g → G39 g au → JJ57 i au) → (∀ g au, DD58 g → G39 g au → DD58 au) →
 (∀ (bd : Nat) (be : AH), bd < N35 → JJ57 bd be → Wy Try.prog K am.next (item36 bd) be fun bf bg => ((bf = .bool true ∧ JJ57 (bd + 1) bg) ∨ (bf = .bool false ∧ DD58 bg)) ∧ aq be bg) →
 ∀ bh, JJ57 0 bh → Wf Try.prog K an ([(Value.func (Fn.yield am.next) #[] #[])] ++ cap32) bh fun _ bi => JJ57 N35 bi ∨ DD58 bi) ∧
 (∀ bj, ao N35 bj → ∃ bk, ld1 (bj.del am.next) u.next 0 = some (.int .i64 bk) ∧
 (((bk : Int) = 1 → Q (.bool true) (bj.del am.next)) ∧
 (¬ (bk : Int) = 1 → Q (.bool false) (bj.del am.next)))) ∧
 (∀ (bl : AX) (bm : AH), bl ≠ .normal → ap bl bm → memAX bl [] = true))))))))))))))))))))))) ∨ (ld1 g k (l + 2) = some (.bool false) ∧
 (Q (.bool true) g)))))) :
 Wf Try.prog K 47 [.slice a b d, .pointer e] h Q :=
  vcF_sound (hs := [(8, [(34, .int .i64 0)])]) hk (Eq.mpr (by kernel_rfl) H)
theorem vc_family_hanging {K : Xs} (hk : K 55 = none) (a : Option Addr) (b d : Nat) (e : Int) (h : AH) (Q : Value → AH → Prop) (H :
 ∀ f, f = h.alloc (.cells [.slice a b d] 34 false) →
 ∀ g, g = f.alloc (.cells [.int .u64 e] 22 false) →
 Q (.func (.func 80) #[] #[(.pointer (some ⟨h.next, 0, none⟩)), (.pointer (some ⟨f.next, 0, none⟩))]) g) :
 Wf Try.prog K 55 [.slice a b d, .int .u64 e] h Q :=
  vcF_sound (hs := []) hk (Eq.mpr (by kernel_rfl) H)
theorem vc_family_hanging_1 {K : Xs} (hk : K 80 = none) (ya0 : Nat) (a : Option Addr) (b : Option Addr) (h : AH) (Q : Value → AH → Prop) (H :
 derefP a fun d e => (∃ f g i, ld1 h d e = some (.slice f g i) ∧
 (∃ j : Int → Nat → AH → Prop, (∃ n, j 0 n h) ∧
 ∀ (k : Nat) (l : AH) (m : Int), j m k l →
 ((m : Int) < ((g : Nat) : Int) → derefP a fun o p => (∃ q r s, ld1 l o p = some (.slice q r s) ∧
 (derefP q fun t u => (((0 : Int) ≤ m) ∧ ((m : Int) < ((r : Nat) : Int)) ∧
 (∃ v, ld1 l t ((u + Int.toNat m * 11) + 4) = some (.int .u64 v) ∧
 (derefP b fun w x => (∃ y, ld1 l w x = some (.int .u64 y) ∧
 (((v : Int) = y → Wy Try.prog K ya0 [.int .i64 m] l fun z aa => ∃ ab, z = .bool ab ∧
 (cond (!ab) (Q (.tuple #[]) aa)
 (∀ ac : Int, ac = IntKind.wrap .i64 (m + 1) → ∃ ad, ad < k ∧ j ac ad aa))) ∧
 (¬ (v : Int) = y → ∀ ae : Int, ae = IntKind.wrap .i64 (m + 1) → ∃ ad, ad < k ∧ j ae ad l))))))))) ∧
 (¬ (m : Int) < ((g : Nat) : Int) → Q (.tuple #[]) l)))) :
 Wf Try.prog K 80 [(Value.func (Fn.yield ya0) #[] #[]), .pointer a, .pointer b] h Q :=
  vcF_sound (hs := [(1, [(7, .int .i64 0)])]) hk (Eq.mpr (by kernel_rfl) H)
theorem vc_family_Right {K : Xs} (hk : K 13 = none) (a : Int) (b : Option Addr) (d e : Nat) (h : AH) (Q : Value → AH → Prop) (H :
 ((281474976710655 : Int) < a → Q (.bool false) h) ∧
 (¬ (281474976710655 : Int) < a → ((32 : Int) < ((d : Nat) : Int) → Q (.bool false) h) ∧
 (¬ (32 : Int) < ((d : Nat) : Int) → ∀ f, f = h.alloc (.map [] 0) →
 ∃ g : Int → Int → Nat → AH → Prop, (∃ n, g 0 0 n f) ∧
 ∀ (i : Nat) (j : AH) (k : Int) (l : Int), g k l i j →
 ((l : Int) < ((d : Nat) : Int) → derefP b fun m o => (((0 : Int) ≤ l) ∧ ((l : Int) < ((d : Nat) : Int)) ∧
 (∃ p q r s t u v w x y z aa ab, ldN j m (o + Int.toNat l * 11) 11 = some (sC p q r s t u v w x y z aa ab) ∧
 (Wf Try.prog K 44 [.agg (sC p q r s t u v w x y z aa ab).toArray] j fun ac ad =>
 (((ac = (.bool true) ∧
 (∃ ae, ld1 ad m (o + Int.toNat l * 11) = some (.int .u64 ae) ∧
 (((ae : Int) ≤ k → Q (.bool false) ad) ∧
 (¬ (ae : Int) ≤ k → ∃ af, ld1 ad m (o + Int.toNat l * 11) = some (.int .u64 af) ∧
 (((a : Int) ≤ af → Q (.bool false) ad) ∧
 (¬ (a : Int) ≤ af → ∃ ag, ld1 ad m (o + Int.toNat l * 11) = some (.int .u64 ag) ∧
 (Wf Try.prog K 45 [(.pointer (some ⟨m, (o + Int.toNat l * 11), none⟩))] ad fun ah ai =>
 (∃ aj ak, ah = (.agg #[.int .u64 aj, .string ak]) ∧
 (∀ al, al = ai.alloc (.cells [.int .u64 0, (.string (ByteArray.mk #[]))] 73 false) →
 (2 = 2) ∧ ∃ am, stN al ai.next 0 [.int .u64 aj, .string ak] = some am ∧
 (∃ an ao, ldN am ai.next 0 2 = some [.int .u64 an, .string ao] ∧
 (∃ ap aq, aLookup Try.prog am 76 (.map (some h.next)) (.agg #[.int .u64 an, .string ao]) true = some (.tuple #[.int .i64 ap, .bool aq]) ∧
 (cond aq (Q (.bool false) am)
 (∃ ar au, ldN am ai.next 0 2 = some [.int .u64 ar, .string au] ∧
 (∃ av, aMapUpdate Try.prog am 76 (.map (some h.next)) (.agg #[.int .u64 ar, .string au]) (.int .i64 l) = some av ∧
 (∀ aw : Int, aw = IntKind.wrap .i64 (l + 1) → ∃ ax, ax < i ∧ g ag aw ax av))))))))))))))) ∨ (ac = (.bool false) ∧
 (Q (.bool false) ad)))))))) ∧
 (¬ (l : Int) < ((d : Nat) : Int) → ∃ ay : Int → Nat → AH → Prop, (∃ n, ay 0 n j) ∧
 ∀ (az : Nat) (a0 : AH) (a1 : Int), ay a1 az a0 →
 ((a1 : Int) < ((d : Nat) : Int) → derefP b fun a2 a3 => (((0 : Int) ≤ a1) ∧ ((a1 : Int) < ((d : Nat) : Int)) ∧
 (Wf Try.prog K 46 [.slice b d e, (.pointer (some ⟨a2, (a3 + Int.toNat a1 * 11), none⟩))] a0 fun a4 a5 =>
 (((a4 = (.bool true) ∧
 (derefP b fun a6 a7 => (((0 : Int) ≤ a1) ∧ ((a1 : Int) < ((d : Nat) : Int)) ∧
 (Wf Try.prog K 47 [.slice b d e, (.pointer (some ⟨a6, (a7 + Int.toNat a1 * 11), none⟩))] a5 fun a8 a9 =>
 (((a8 = (.bool true) ∧
 (∀ ba : Int, ba = IntKind.wrap .i64 (a1 + 1) → ∃ bb, bb < az ∧ ay ba bb a9)) ∨ (a8 = (.bool false) ∧
 (Q (.bool false) a9)))))))) ∨ (a4 = (.bool false) ∧
 (Q (.bool false) a5))))))) ∧
 (¬ (a1 : Int) < ((d : Nat) : Int) → Q (.bool true) a0))))) :
 Wf Try.prog K 13 (bC a b d e) h Q :=
  vcF_sound (hs := [(6, [(6, .int .u64 0), (23, .int .i64 0)]), (19, [(69, .int .i64 0)])]) hk (Eq.mpr (by kernel_rfl) H)
theorem vc_family_Find {K : Xs} (hk : K 17 = none) (a : Option Addr) (b d : Nat) (e : Int) (h : AH) (Q : Value → AH → Prop) (H :
 ∀ f, f = h.alloc (.cells (zC) 28 false) →
 Wf Try.prog K 54 [.slice a b d, .int .u64 e] f fun g i =>
 (∃ j, g = (.int .i64 j) ∧
 (((j : Int) < 0 → (11 = 11) ∧ ∃ k, stN i h.next 0 (zC) = some k ∧
 (∃ l m n o p q r s t u v w x, ldN k h.next 0 11 = some (sC l m n o p q r s t u v w x) ∧
 (Q (.tuple #[.agg (sC l m n o p q r s t u v w x).toArray, .bool false]) k))) ∧
 (¬ (j : Int) < 0 → derefP a fun y z => (((0 : Int) ≤ j) ∧ ((j : Int) < ((b : Nat) : Int)) ∧
 (∃ aa ab ac ad ae af ag ah ai aj ak al am, ldN i y (z + Int.toNat j * 11) 11 = some (sC aa ab ac ad ae af ag ah ai aj ak al am) ∧
 (Wf Try.prog K 42 [.agg (sC aa ab ac ad ae af ag ah ai aj ak al am).toArray] i fun an ao =>
 (∃ ap aq ar au av aw ax ay az a0 a1 a2 a3, an = (.agg (sC ap aq ar au av aw ax ay az a0 a1 a2 a3).toArray) ∧
 ((11 = 11) ∧ ∃ a4, stN ao h.next 0 (sC ap aq ar au av aw ax ay az a0 a1 a2 a3) = some a4 ∧
 (∃ a5 a6 a7 a8 a9 ba bb bc bd be bf bg bh, ldN a4 h.next 0 11 = some (sC a5 a6 a7 a8 a9 ba bb bc bd be bf bg bh) ∧
 (Q (.tuple #[.agg (sC a5 a6 a7 a8 a9 ba bb bc bd be bf bg bh).toArray, .bool true]) a4))))))))))) :
 Wf Try.prog K 17 [.slice a b d, .int .u64 e] h Q :=
  vcF_sound (hs := []) hk (Eq.mpr (by kernel_rfl) H)
theorem vc_family_Clones {K : Xs} (hk : K 16 = none) (a : Option Addr) (b d : Nat) (e : Int) (h : AH) (Q : Value → AH → Prop) (H :
 ∀ f, f = h.alloc (.cells [.slice a b d] 34 false) →
 ∃ g j k, ld1 f h.next 0 = some (.slice g j k) ∧
 (Wf Try.prog K 54 [.slice g j k, .int .u64 e] f fun l m =>
 (∃ n, l = (.int .i64 n) ∧
 (∀ o, o = m.alloc (.cells [.int .i64 0] 3 false) →
 ∃ p, st1 o m.next 0 (.int .i64 n) = some p ∧
 (∃ q, ld1 p m.next 0 = some (.int .i64 q) ∧
 (((q : Int) < 0 → Q (.slice none 0 0) p) ∧
 (¬ (q : Int) < 0 → ∃ r s t, ld1 p h.next 0 = some (.slice r s t) ∧
 (∃ u, ld1 p m.next 0 = some (.int .i64 u) ∧
 (derefP r fun v w => (((0 : Int) ≤ u) ∧ ((u : Int) < ((s : Nat) : Int)) ∧
 (((ld1 p v ((w + Int.toNat u * 11) + 2) = some (.bool true) ∧
 (∀ y, y = p.alloc (.cells [.slice none 0 0] 39 false) →
 ∃ z aa ab, ld1 y h.next 0 = some (.slice z aa ab) ∧
 (Wf Try.prog K 55 [.slice z aa ab, .int .u64 e] y fun ac ad =>
 (∃ (ae : FuncId) (cap23 : List Value), ac = (.func (.func ae) #[] cap23.toArray) ∧
 (∃ (af : Nat → AH → Prop) (ag : AX → AH → Prop) (N26 : Nat) (item27 : Nat → List Value) (G30 ah : AH → AH → Prop),
 (K ae = none ∧ ([24] : List Nat) = [24]) ∧
 (∀ i, i < N26 → ∃ ai, item27 i = [.int .i64 ai]) ∧
 (∀ aj, aj.next = ad.next + 1 → (∀ c, c ≠ ad.next → aj.get c = ad.get c) → af 0 aj) ∧
 (∀ i aj ak, af i aj → Near ad.next aj ak → af i ak) ∧
 (∀ x aj ak, ag x aj → Near ad.next aj ak → ag x ak) ∧
 (∀ i aj ak, af i aj → G30 aj ak → af i ak) ∧ (∀ x aj ak, ag x aj → G30 aj ak → ag x ak) ∧ (∀ aj ak, G30 aj ak → ak.get ad.next = aj.get ad.next) ∧
 (∀ (al : Nat) (am : AH), al < N26 → af al am → (∃ L, am.get ad.next = some (.loop L)) → ∀ (an : Int), item27 al = [.int .i64 an] →
 AX.normal = AX.normal ∧ (am.get ad.next = am.get ad.next) ∧ ∀ ao, Near ad.next am ao → (∃ L, ao.get ad.next = some (.loop L)) →
 ∃ ap aq ar, ld1 ao h.next 0 = some (.slice ap aq ar) ∧
 (derefP ap fun au av => (((0 : Int) ≤ an) ∧ ((an : Int) < ((aq : Nat) : Int)) ∧
 (∃ aw, ld1 ao au ((av + Int.toNat an * 11) + 3) = some (.int .u64 aw) ∧
 (∃ ax ay az, ld1 ao h.next 0 = some (.slice ax ay az) ∧
 (∃ a0, ld1 ao m.next 0 = some (.int .i64 a0) ∧
 (derefP ax fun a1 a2 => (((0 : Int) ≤ a0) ∧ ((a0 : Int) < ((ay : Nat) : Int)) ∧
 (∃ a3, ld1 ao a1 ((a2 + Int.toNat a0 * 11) + 3) = some (.int .u64 a3) ∧
 (((aw : Int) = a3 → (ao.get ad.next = ao.get ad.next ∧ af (al + 1) ao ∧ ∀ m, Near ad.next ao m → ah am m)) ∧
 (¬ (aw : Int) = a3 → ∃ a4 a5 a6, ld1 ao p.next 0 = some (.slice a4 a5 a6) ∧
 (∃ a7 a8 a9, ld1 ao h.next 0 = some (.slice a7 a8 a9) ∧
 (derefP a7 fun ba bb => (((0 : Int) ≤ an) ∧ ((an : Int) < ((a8 : Nat) : Int)) ∧
 (∃ bc, ld1 ao ba (bb + Int.toNat an * 11) = some (.int .u64 bc) ∧
 (∀ bd, bd = ao.alloc (.cells [.int .u64 bc] 22 false) →
 ∃ be bf bg bh, aBuiltin Try.prog bd .append #[39, 39] [.slice a4 a5 a6, (.slice (some ⟨ao.next, 0, none⟩) 1 1)] = some (.slice be bf bg, bh) ∧
 (∃ bi, st1 bh p.next 0 (.slice be bf bg) = some bi ∧
 ((bi.get ad.next = ao.get ad.next ∧ af (al + 1) bi ∧ ∀ m, Near ad.next bi m → ah am m))))))))))))))))))) ∧
 (∀ (JJ63 : Nat → AH → Prop) (DD64 : AH → Prop), (∀ i aj, JJ63 i aj → af i aj) → (∀ i aj ak, JJ63 i aj → G30 aj ak → JJ63 i ak) → (∀ aj ak, DD64 aj → G30 aj ak → DD64 ak) →
 (∀ (bj : Nat) (bk : AH), bj < N26 → JJ63 bj bk → Wy Try.prog K ad.next (item27 bj) bk fun bl bm => ((bl = .bool true ∧ JJ63 (bj + 1) bm) ∨ (bl = .bool false ∧ DD64 bm)) ∧ ah bk bm) →
 ∀ bn, JJ63 0 bn → Wf Try.prog K ae ([(Value.func (Fn.yield ad.next) #[] #[])] ++ cap23) bn fun _ bo => JJ63 N26 bo ∨ DD64 bo) ∧
 (∀ bp, af N26 bp → ∃ bq br bs, ld1 (bp.del ad.next) p.next 0 = some (.slice bq br bs) ∧
 (Q (.slice bq br bs) (bp.del ad.next))) ∧
 (∀ (bt : AX) (bu : AH), bt ≠ .normal → ag bt bu → memAX bt [] = true)))))) ∨ (ld1 p v ((w + Int.toNat u * 11) + 2) = some (.bool false) ∧
 (Q (.slice none 0 0) p)))))))))))))) :
 Wf Try.prog K 16 [.slice a b d, .int .u64 e] h Q :=
  vcF_sound (hs := [(6, [(24, .int .i64 0)])]) hk (Eq.mpr (by kernel_rfl) H)
theorem vc_family_way {K : Xs} (hk : K 56 = none) (a : Option Addr) (b d : Nat) (e : Int) (h : AH) (Q : Value → AH → Prop) (H :
 Wf Try.prog K 54 [.slice a b d, .int .u64 e] h fun f g =>
 (∃ i, f = (.int .i64 i) ∧
 (((i : Int) < 0 → Q (.tuple #[.slice none 0 0, .int .u64 0]) g) ∧
 (¬ (i : Int) < 0 → derefP a fun j k => (((0 : Int) ≤ i) ∧ ((i : Int) < ((b : Nat) : Int)) ∧
 (((ld1 g j ((k + Int.toNat i * 11) + 2) = some (.bool true) ∧
 (Q (.tuple #[.slice none 0 0, .int .u64 0]) g)) ∨ (ld1 g j ((k + Int.toNat i * 11) + 2) = some (.bool false) ∧
 (derefP a fun l m => (((0 : Int) ≤ i) ∧ ((i : Int) < ((b : Nat) : Int)) ∧
 (∃ o, ld1 g l ((m + Int.toNat i * 11) + 4) = some (.int .u64 o) ∧
 (∃ p : Option Addr → Nat → Nat → Int → Nat → AH → Prop, (∃ n, p none 0 0 o n g) ∧
 ∀ (q : Nat) (r : AH) (s : Option Addr) (t : Nat) (u : Nat) (v : Int), p s t u v q r →
 ((v : Int) = 0 → Q (.tuple #[.slice s t u, .int .u64 v]) r) ∧
 (¬ (v : Int) = 0 → ((((t : Nat) : Int) : Int) < 32 → Wf Try.prog K 54 [.slice a b d, .int .u64 v] r fun w x =>
 (∃ y, w = (.int .i64 y) ∧
 (((y : Int) < 0 → Q (.tuple #[.slice s t u, .int .u64 v]) x) ∧
 (¬ (y : Int) < 0 → derefP a fun z aa => (((0 : Int) ≤ y) ∧ ((y : Int) < ((b : Nat) : Int)) ∧
 (∃ ab, ld1 x z ((aa + Int.toNat y * 11) + 3) = some (.int .u64 ab) ∧
 (((ab : Int) = e → ∀ ac, ac = x.alloc (.cells [.int .u64 v] 22 false) →
 ∃ ad ae af ag, aBuiltin Try.prog ac .append #[39, 39] [.slice s t u, (.slice (some ⟨x.next, 0, none⟩) 1 1)] = some (.slice ad ae af, ag) ∧
 (derefP a fun ah ai => (((0 : Int) ≤ y) ∧ ((y : Int) < ((b : Nat) : Int)) ∧
 (∃ aj, ld1 ag ah ((ai + Int.toNat y * 11) + 4) = some (.int .u64 aj) ∧
 (∃ ak, ak < q ∧ p ad ae af aj ak ag))))) ∧
 (¬ (ab : Int) = e → Q (.tuple #[.slice s t u, .int .u64 v]) x)))))))) ∧
 (¬ (((t : Nat) : Int) : Int) < 32 → Q (.tuple #[.slice s t u, .int .u64 v]) r)))))))))))))) :
 Wf Try.prog K 56 [.slice a b d, .int .u64 e] h Q :=
  vcF_sound (hs := [(6, [(7, .slice none 0 0), (8, .int .u64 0)])]) hk (Eq.mpr (by kernel_rfl) H)
theorem vc_family_Chain {K : Xs} (hk : K 22 = none) (a : Option Addr) (b d : Nat) (e : Int) (h : AH) (Q : Value → AH → Prop) (H :
 Wf Try.prog K 56 [.slice a b d, .int .u64 e] h fun f g =>
 (∃ i j k l, f = (.tuple #[.slice i j k, .int .u64 l]) ∧
 (Q (.slice i j k) g))) :
 Wf Try.prog K 22 [.slice a b d, .int .u64 e] h Q :=
  vcF_sound (hs := []) hk (Eq.mpr (by kernel_rfl) H)
theorem vc_family_Origin {K : Xs} (hk : K 18 = none) (a : Option Addr) (b d : Nat) (e : Int) (h : AH) (Q : Value → AH → Prop) (H :
 Wf Try.prog K 56 [.slice a b d, .int .u64 e] h fun f g =>
 (∃ i j k l, f = (.tuple #[.slice i j k, .int .u64 l]) ∧
 (Q (.int .u64 l) g))) :
 Wf Try.prog K 18 [.slice a b d, .int .u64 e] h Q :=
  vcF_sound (hs := []) hk (Eq.mpr (by kernel_rfl) H)
abbrev family_Named_t1 (K : Xs) (Q : Value → AH → Prop) (m : Int) (a : Option Addr) (b : Nat) (n : AH) (o : AH) : Prop :=
  (¬ (m : Int) < 0 → derefP a fun p q => (((0 : Int) ≤ m) ∧ ((m : Int) < ((b : Nat) : Int)) ∧
 (∃ r s t u v w x y z aa ab ac ad, ldN n p (q + Int.toNat m * 11) 11 = some (sC r s t u v w x y z aa ab ac ad) ∧
 (Wf Try.prog K 42 [.agg (sC r s t u v w x y z aa ab ac ad).toArray] n fun ae af =>
 (∃ ag ah ai aj ak al am an ao ap aq ar au, ae = (.agg (sC ag ah ai aj ak al am an ao ap aq ar au).toArray) ∧
 ((11 = 11) ∧ ∃ av, stN af o.next 0 (sC ag ah ai aj ak al am an ao ap aq ar au) = some av ∧
 (∃ aw ax ay az a0 a1 a2 a3 a4 a5 a6 a7 a8, ldN av o.next 0 11 = some (sC aw ax ay az a0 a1 a2 a3 a4 a5 a6 a7 a8) ∧
 (Q (.tuple #[.agg (sC aw ax ay az a0 a1 a2 a3 a4 a5 a6 a7 a8).toArray, .int .i64 0]) av))))))))
abbrev family_Named_t2 (K : Xs) (Q : Value → AH → Prop) (m : Int) (n : AH) (o : AH) (a9 : Int) : Prop :=
  ((m : Int) < 0 → (11 = 11) ∧ ∃ ba, stN n o.next 0 (zC) = some ba ∧
 (∃ bb bc bd be bf bg bh bi bj bk bl bm bn, ldN ba o.next 0 11 = some (sC bb bc bd be bf bg bh bi bj bk bl bm bn) ∧
 (Q (.tuple #[.agg (sC bb bc bd be bf bg bh bi bj bk bl bm bn).toArray, .int .i64 a9]) ba)))
theorem vc_family_Named {K : Xs} (hk : K 11 = none) (a : Option Addr) (b d : Nat) (e : ByteArray) (f : AH) (Q : Value → AH → Prop) (H :
 ∀ g, g = f.alloc (.cells (zC) 28 false) →
 Wf Try.prog K 40 [.string e] g fun i j =>
 (∃ k l m, i = (.tuple #[.string k, .string l, .int .i64 m]) ∧
 (((m : Int) = 0 → Wf Try.prog K 41 [.slice a b d, .agg #[.int .u64 0, .string k]] j fun n o =>
 (∃ p, n = (.int .i64 p) ∧
 (((0 : Int) ≤ p → (l = (ByteArray.mk #[]) → (family_Named_t2 K Q p o f 161) ∧
 (family_Named_t1 K Q p a b o f)) ∧
 (¬ l = (ByteArray.mk #[]) → derefP a fun q r => (((0 : Int) ≤ p) ∧ ((p : Int) < ((b : Nat) : Int)) ∧
 (∃ s, ld1 o q (r + Int.toNat p * 11) = some (.int .u64 s) ∧
 (Wf Try.prog K 41 [.slice a b d, .agg #[.int .u64 s, .string l]] o fun t u =>
 (∃ v, t = (.int .i64 v) ∧
 ((family_Named_t2 K Q v u f 161) ∧
 (family_Named_t1 K Q v a b u f)))))))) ∧
 (¬ (0 : Int) ≤ p → (family_Named_t2 K Q p o f 161) ∧
 (family_Named_t1 K Q p a b o f))))) ∧
 (¬ (m : Int) = 0 → (11 = 11) ∧ ∃ w, stN j f.next 0 (zC) = some w ∧
 (∃ x y z aa ab ac ad ae af ag ah ai aj, ldN w f.next 0 11 = some (sC x y z aa ab ac ad ae af ag ah ai aj) ∧
 (Q (.tuple #[.agg (sC x y z aa ab ac ad ae af ag ah ai aj).toArray, .int .i64 m]) w)))))) :
 Wf Try.prog K 11 [.slice a b d, .string e] f Q :=
  vcF_sound (hs := []) hk (Eq.mpr (by kernel_rfl) H)
theorem vc_family_placeOf {K : Xs} (hk : K 41 = none) (a : Option Addr) (b d : Nat) (e : Int) (f : ByteArray) (h : AH) (Q : Value → AH → Prop) (H :
 ∀ g, g = h.alloc (.cells [.int .u64 e, .string f] 73 false) →
 ∃ i : Int → Nat → AH → Prop, (∃ n, i 0 n g) ∧
 ∀ (j : Nat) (k : AH) (l : Int), i l j k →
 ((l : Int) < ((b : Nat) : Int) → derefP a fun m o => (((0 : Int) ≤ l) ∧ ((l : Int) < ((b : Nat) : Int)) ∧
 (Wf Try.prog K 45 [(.pointer (some ⟨m, (o + Int.toNat l * 11), none⟩))] k fun p q =>
 (∃ r s, p = (.agg #[.int .u64 r, .string s]) ∧
 (∃ t u, ldN q h.next 0 2 = some [.int .u64 t, .string u] ∧
 (∃ la14 lb15, keyA Try.prog 73 (.agg #[.int .u64 r, .string s]) = some la14 ∧ keyA Try.prog 73 (.agg #[.int .u64 t, .string u]) = some lb15 ∧
 (litsEq la14 lb15 = true → (ldN k h.next 0 2 = some [.int .u64 t, .string u]) ∧
 ((ldN q h.next 0 2 = some [.int .u64 t, .string u]) ∧
 (Q (.int .i64 l) q))) ∧
 (litsEq la14 lb15 = false → (ldN k h.next 0 2 = some [.int .u64 t, .string u]) ∧
 ((ldN q h.next 0 2 = some [.int .u64 t, .string u]) ∧
 (∀ v : Int, v = IntKind.wrap .i64 (l + 1) → ∃ w, w < j ∧ i v w q))))))))) ∧
 (¬ (l : Int) < ((b : Nat) : Int) → Q (.int .i64 (-1)) k)) :
 Wf Try.prog K 41 [.slice a b d, .agg #[.int .u64 e, .string f]] h Q :=
  vcF_sound (hs := [(2, [(8, .int .i64 0)])]) hk (Eq.mpr (by kernel_rfl) H)
theorem vc_family_Next {K : Xs} (hk : K 21 = none) (a : Option Addr) (b d : Nat) (e : Int) (h : AH) (Q : Value → AH → Prop) (H :
 ∀ f, f = h.alloc (.cells [.slice a b d] 34 false) →
 ∀ g, g = f.alloc (.cells [.int .u64 0] 22 false) →
 ∃ j k l, ld1 g h.next 0 = some (.slice j k l) ∧
 (Wf Try.prog K 54 [.slice j k l, .int .u64 e] g fun m n =>
 (∃ o, m = (.int .i64 o) ∧
 (∀ p, p = n.alloc (.cells [.int .i64 0] 3 false) →
 ∃ q, st1 p n.next 0 (.int .i64 o) = some q ∧
 (∃ r, ld1 q n.next 0 = some (.int .i64 r) ∧
 (((r : Int) < 0 → ∃ s, st1 q f.next 0 (.int .u64 0) = some s ∧
 (∃ t, ld1 s f.next 0 = some (.int .u64 t) ∧
 (Q (.int .u64 t) s))) ∧
 (¬ (r : Int) < 0 → ∃ u v w, ld1 q h.next 0 = some (.slice u v w) ∧
 (∃ y, ld1 q n.next 0 = some (.int .i64 y) ∧
 (derefP u fun z aa => (((0 : Int) ≤ y) ∧ ((y : Int) < ((v : Nat) : Int)) ∧
 (((ld1 q z ((aa + Int.toNat y * 11) + 2) = some (.bool true) ∧
 (∃ ab ac ad, ld1 q h.next 0 = some (.slice ab ac ad) ∧
 (Wf Try.prog K 55 [.slice ab ac ad, .int .u64 e] q fun ae af =>
 (∃ (ag : FuncId) (cap25 : List Value), ae = (.func (.func ag) #[] cap25.toArray) ∧
 (∃ (ah : Nat → AH → Prop) (ai : AX → AH → Prop) (N28 : Nat) (item29 : Nat → List Value) (G32 aj : AH → AH → Prop),
 (K ag = none ∧ ([23] : List Nat) = [23]) ∧
 (∀ i, i < N28 → ∃ ak, item29 i = [.int .i64 ak]) ∧
 (∀ g, g.next = af.next + 1 → (∀ c, c ≠ af.next → g.get c = af.get c) → ah 0 g) ∧
 (∀ i g al, ah i g → Near af.next g al → ah i al) ∧
 (∀ x g al, ai x g → Near af.next g al → ai x al) ∧
 (∀ i g al, ah i g → G32 g al → ah i al) ∧ (∀ x g al, ai x g → G32 g al → ai x al) ∧ (∀ g al, G32 g al → al.get af.next = g.get af.next) ∧
 (∀ (am : Nat) (an : AH), am < N28 → ah am an → (∃ L, an.get af.next = some (.loop L)) → ∀ (ao : Int), item29 am = [.int .i64 ao] →
 AX.normal = AX.normal ∧ (an.get af.next = an.get af.next) ∧ ∀ ap, Near af.next an ap → (∃ L, ap.get af.next = some (.loop L)) →
 ∃ aq ar au, ld1 ap h.next 0 = some (.slice aq ar au) ∧
 (derefP aq fun av aw => (((0 : Int) ≤ ao) ∧ ((ao : Int) < ((ar : Nat) : Int)) ∧
 (∃ ax, ld1 ap av ((aw + Int.toNat ao * 11) + 3) = some (.int .u64 ax) ∧
 (∃ ay az a0, ld1 ap h.next 0 = some (.slice ay az a0) ∧
 (∃ a1, ld1 ap n.next 0 = some (.int .i64 a1) ∧
 (derefP ay fun a2 a3 => (((0 : Int) ≤ a1) ∧ ((a1 : Int) < ((az : Nat) : Int)) ∧
 (∃ a4, ld1 ap a2 ((a3 + Int.toNat a1 * 11) + 3) = some (.int .u64 a4) ∧
 (((ax : Int) = a4 → ∃ a5 a6 a7, ld1 ap h.next 0 = some (.slice a5 a6 a7) ∧
 (derefP a5 fun a8 a9 => (((0 : Int) ≤ ao) ∧ ((ao : Int) < ((a6 : Nat) : Int)) ∧
 (∃ ba, ld1 ap a8 (a9 + Int.toNat ao * 11) = some (.int .u64 ba) ∧
 (∃ bb, st1 ap f.next 0 (.int .u64 ba) = some bb ∧
 ((bb.get af.next = ap.get af.next ∧ ai .ret bb ∧ ∀ bc, Near af.next bb bc → aj an bc))))))) ∧
 (¬ (ax : Int) = a4 → (ap.get af.next = ap.get af.next ∧ ah (am + 1) ap ∧ ∀ bc, Near af.next ap bc → aj an bc)))))))))))) ∧
 (∀ (JJ57 : Nat → AH → Prop) (DD58 : AH → Prop), (∀ i g, JJ57 i g → ah i g) → (∀ i g al, JJ57 i g → G32 g al → JJ57 i al) → (∀ g al, DD58 g → G32 g al → DD58 al) →
 (∀ (bd : Nat) (be : AH), bd < N28 → JJ57 bd be → Wy Try.prog K af.next (item29 bd) be fun bf bg => ((bf = .bool true ∧ JJ57 (bd + 1) bg) ∨ (bf = .bool false ∧ DD58 bg)) ∧ aj be bg) →
 ∀ bh, JJ57 0 bh → Wf Try.prog K ag ([(Value.func (Fn.yield af.next) #[] #[])] ++ cap25) bh fun _ bi => JJ57 N28 bi ∨ DD58 bi) ∧
 (∀ bj, ah N28 bj → ∃ bk, st1 (bj.del af.next) f.next 0 (.int .u64 0) = some bk ∧
 (∃ bl, ld1 bk f.next 0 = some (.int .u64 bl) ∧
 (Q (.int .u64 bl) bk))) ∧
 (∀ bm, ai .ret bm → ∃ bn, ld1 (bm.del af.next) f.next 0 = some (.int .u64 bn) ∧
 (Q (.int .u64 bn) (bm.del af.next))) ∧
 (∀ (bo : AX) (bm : AH), bo ≠ .normal → ai bo bm → memAX bo [.ret] = true)))))) ∨ (ld1 q z ((aa + Int.toNat y * 11) + 2) = some (.bool false) ∧
 (∃ bp, st1 q f.next 0 (.int .u64 0) = some bp ∧
 (∃ bq, ld1 bp f.next 0 = some (.int .u64 bq) ∧
 (Q (.int .u64 bq) bp)))))))))))))))) :
 Wf Try.prog K 21 [.slice a b d, .int .u64 e] h Q :=
  vcF_sound (hs := [(5, [(23, .int .i64 0)])]) hk (Eq.mpr (by kernel_rfl) H)
theorem vc_entry_Right {K : Xs} (hk : K 44 = none) (a : Int) (b : ByteArray) (d : Bool) (e : Int) (f : Int) (g : Int) (i : Int) (j : Int) (k : Int) (l : Int) (m : Option Addr) (n o : Nat) (h : AH) (Q : Value → AH → Prop) (H :
 ∀ p, p = h.alloc (.cells (sC a b d e f g i j k l m n o) 28 false) →
 ∃ q, ld1 p h.next 0 = some (.int .u64 q) ∧
 (((q : Int) < 1 → Q (.bool false) p) ∧
 (¬ (q : Int) < 1 → ∃ r, ld1 p h.next 0 = some (.int .u64 r) ∧
 (((281474976710655 : Int) < r → Q (.bool false) p) ∧
 (¬ (281474976710655 : Int) < r → ∃ s, ld1 p h.next 3 = some (.int .u64 s) ∧
 (((s : Int) < 1 → Q (.bool false) p) ∧
 (¬ (s : Int) < 1 → ∃ t, ld1 p h.next 3 = some (.int .u64 t) ∧
 (((281474976710655 : Int) < t → Q (.bool false) p) ∧
 (¬ (281474976710655 : Int) < t → ∃ u, ld1 p h.next 4 = some (.int .u64 u) ∧
 (((281474976710655 : Int) < u → Q (.bool false) p) ∧
 (¬ (281474976710655 : Int) < u → ∃ v, ld1 p h.next 6 = some (.int .i64 v) ∧
 (((v : Int) < 1 → Q (.bool false) p) ∧
 (¬ (v : Int) < 1 → ∃ w, ld1 p h.next 6 = some (.int .i64 w) ∧
 (((64 : Int) < w → Q (.bool false) p) ∧
 (¬ (64 : Int) < w → ∃ x, ld1 p h.next 1 = some (.string x) ∧
 (Wf Try.prog K 74 [.string x] p fun y z =>
 (((y = (.bool true) ∧
 (∃ aa ab ac, ldN z h.next 7 3 = some (qL aa ab ac) ∧
 (Wf Try.prog K 75 [.agg (qL aa ab ac).toArray] z fun ad ae =>
 (((ad = (.bool true) ∧
 (∃ af ag ah, ld1 ae h.next 10 = some (.slice af ag ah) ∧
 (((4000 : Int) < ((ag : Nat) : Int) → Q (.bool false) ae) ∧
 (¬ (4000 : Int) < ((ag : Nat) : Int) → ∃ ai aj ak, ld1 ae h.next 10 = some (.slice ai aj ak) ∧
 (Wf Try.prog K 76 [.slice ai aj ak] ae fun al am =>
 (((al = (.bool true) ∧
 (((ld1 am h.next 2 = some (.bool true) ∧
 (∃ an, ld1 am h.next 5 = some (.int .u64 an) ∧
 (((1 : Int) ≤ an → ∃ ao, ld1 am h.next 5 = some (.int .u64 ao) ∧
 (((ao : Int) ≤ 281474976710655 → Q (.bool true) am) ∧
 (¬ (ao : Int) ≤ 281474976710655 → Q (.bool false) am))) ∧
 (¬ (1 : Int) ≤ an → Q (.bool false) am)))) ∨ (ld1 am h.next 2 = some (.bool false) ∧
 (∃ ap, ld1 am h.next 5 = some (.int .u64 ap) ∧
 (((ap : Int) = 0 → ∃ aq, ld1 am h.next 3 = some (.int .u64 aq) ∧
 (∃ ar, ld1 am h.next 0 = some (.int .u64 ar) ∧
 (((aq : Int) = ar → Q (.bool true) am) ∧
 (¬ (aq : Int) = ar → Q (.bool false) am)))) ∧
 (¬ (ap : Int) = 0 → Q (.bool false) am))))))) ∨ (al = (.bool false) ∧
 (Q (.bool false) am))))))))) ∨ (ad = (.bool false) ∧
 (Q (.bool false) ae))))))) ∨ (y = (.bool false) ∧
 (Q (.bool false) z)))))))))))))))))))) :
 Wf Try.prog K 44 [.agg (sC a b d e f g i j k l m n o).toArray] h Q :=
  vcF_sound (hs := []) hk (Eq.mpr (by kernel_rfl) H)
theorem vc_entry_Copy {K : Xs} (hk : K 42 = none) (a : Int) (b : ByteArray) (d : Bool) (e : Int) (f : Int) (g : Int) (i : Int) (j : Int) (k : Int) (l : Int) (m : Option Addr) (n o : Nat) (h : AH) (Q : Value → AH → Prop) (H :
 ∀ p, p = h.alloc (.cells (sC a b d e f g i j k l m n o) 28 false) →
 ∀ q, q = p.alloc (.cells (zC) 28 false) →
 ∃ r s t, ld1 q h.next 10 = some (.slice r s t) ∧
 (∃ u v w x, aBuiltin Try.prog q .append #[26, 26] [.slice none 0 0, .slice r s t] = some (.slice u v w, x) ∧
 (∃ y, st1 x h.next 10 (.slice u v w) = some y ∧
 (∃ z aa ab ac ad ae af ag ah ai aj ak al, ldN y h.next 0 11 = some (sC z aa ab ac ad ae af ag ah ai aj ak al) ∧
 ((11 = 11) ∧ ∃ am, stN y p.next 0 (sC z aa ab ac ad ae af ag ah ai aj ak al) = some am ∧
 (∃ an ao ap aq ar au av aw ax ay az a0 a1, ldN am p.next 0 11 = some (sC an ao ap aq ar au av aw ax ay az a0 a1) ∧
 (Q (.agg (sC an ao ap aq ar au av aw ax ay az a0 a1).toArray) am))))))) :
 Wf Try.prog K 42 [.agg (sC a b d e f g i j k l m n o).toArray] h Q :=
  vcF_sound (hs := []) hk (Eq.mpr (by kernel_rfl) H)
theorem vc_name_Split {K : Xs} (hk : K 40 = none) (a : ByteArray) (h : AH) (Q : Value → AH → Prop) (H :
 Wf Try.prog K 73 [.string a, (.string (ByteArray.mk #[64]))] h fun b d =>
 (∃ e f, ((b = (.tuple #[.string e, .string f, .bool true]) ∧
 (Wf Try.prog K 74 [.string e] d fun g i =>
 (((g = (.bool true) ∧
 (Wf Try.prog K 74 [.string f] i fun j k =>
 (((j = (.bool true) ∧
 (Q (.tuple #[.string e, .string f, .int .i64 0]) k)) ∨ (j = (.bool false) ∧
 (Q (.tuple #[(.string (ByteArray.mk #[])), (.string (ByteArray.mk #[])), .int .i64 141]) k)))))) ∨ (g = (.bool false) ∧
 (Q (.tuple #[(.string (ByteArray.mk #[])), (.string (ByteArray.mk #[])), .int .i64 141]) i)))))) ∨ (b = (.tuple #[.string e, .string f, .bool false]) ∧
 (Wf Try.prog K 74 [.string e] d fun l m =>
 (((l = (.bool true) ∧
 (Q (.tuple #[.string e, .string f, .int .i64 0]) m)) ∨ (l = (.bool false) ∧
 (Q (.tuple #[(.string (ByteArray.mk #[])), (.string (ByteArray.mk #[])), .int .i64 141]) m))))))))) :
 Wf Try.prog K 40 [.string a] h Q :=
  vcF_sound (hs := []) hk (Eq.mpr (by kernel_rfl) H)
theorem vc_name_Right {K : Xs} (hk : K 74 = none) (a : ByteArray) (h : AH) (Q : Value → AH → Prop) (H :
 ((((ByteArray.size a : Nat) : Int) : Int) < 1 → Q (.bool false) h) ∧
 (¬ (((ByteArray.size a : Nat) : Int) : Int) < 1 → ((24 : Int) < ((ByteArray.size a : Nat) : Int) → Q (.bool false) h) ∧
 (¬ (24 : Int) < ((ByteArray.size a : Nat) : Int) → ∀ b, b = h.alloc (.siter a 0) →
 ∃ d : Nat → AH → Prop, (∃ n, d n b) ∧
 ∀ (e : Nat) (f : AH), d e f →
 ((0 : Nat) = 0) ∧ ∃ (g : ByteArray) (pos6 : Nat), f.get h.next = some (.siter g pos6) ∧
 (pos6 < g.size → ∀ i, i = f.set h.next (.siter g (pos6 + (Utf8.decode g pos6).2)) → ((97 : Int) ≤ (Utf8.decode g pos6).1 → (((Utf8.decode g pos6).1 : Int) ≤ 122 → ∃ j, j < e ∧ d j i) ∧
 (¬ ((Utf8.decode g pos6).1 : Int) ≤ 122 → ((48 : Int) ≤ (Utf8.decode g pos6).1 → (((Utf8.decode g pos6).1 : Int) ≤ 57 → ∃ j, j < e ∧ d j i) ∧
 (¬ ((Utf8.decode g pos6).1 : Int) ≤ 57 → (((Utf8.decode g pos6).1 : Int) = 45 → ∃ j, j < e ∧ d j i) ∧
 (¬ ((Utf8.decode g pos6).1 : Int) = 45 → (((Utf8.decode g pos6).1 : Int) = 95 → ∃ j, j < e ∧ d j i) ∧
 (¬ ((Utf8.decode g pos6).1 : Int) = 95 → Q (.bool false) i)))) ∧
 (¬ (48 : Int) ≤ (Utf8.decode g pos6).1 → (((Utf8.decode g pos6).1 : Int) = 45 → ∃ j, j < e ∧ d j i) ∧
 (¬ ((Utf8.decode g pos6).1 : Int) = 45 → (((Utf8.decode g pos6).1 : Int) = 95 → ∃ j, j < e ∧ d j i) ∧
 (¬ ((Utf8.decode g pos6).1 : Int) = 95 → Q (.bool false) i))))) ∧
 (¬ (97 : Int) ≤ (Utf8.decode g pos6).1 → ((48 : Int) ≤ (Utf8.decode g pos6).1 → (((Utf8.decode g pos6).1 : Int) ≤ 57 → ∃ j, j < e ∧ d j i) ∧
 (¬ ((Utf8.decode g pos6).1 : Int) ≤ 57 → (((Utf8.decode g pos6).1 : Int) = 45 → ∃ j, j < e ∧ d j i) ∧
 (¬ ((Utf8.decode g pos6).1 : Int) = 45 → (((Utf8.decode g pos6).1 : Int) = 95 → ∃ j, j < e ∧ d j i) ∧
 (¬ ((Utf8.decode g pos6).1 : Int) = 95 → Q (.bool false) i)))) ∧
 (¬ (48 : Int) ≤ (Utf8.decode g pos6).1 → (((Utf8.decode g pos6).1 : Int) = 45 → ∃ j, j < e ∧ d j i) ∧
 (¬ ((Utf8.decode g pos6).1 : Int) = 45 → (((Utf8.decode g pos6).1 : Int) = 95 → ∃ j, j < e ∧ d j i) ∧
 (¬ ((Utf8.decode g pos6).1 : Int) = 95 → Q (.bool false) i))))) ∧
 (¬ pos6 < g.size → Q (.bool true) f)))) :
 Wf Try.prog K 74 [.string a] h Q :=
  vcF_sound (hs := [(4, [])]) hk (Eq.mpr (by kernel_rfl) H)
theorem vc_ptr_Right {K : Xs} (hk : K 75 = none) (a : Int) (b : Int) (d : Int) (h : AH) (Q : Value → AH → Prop) (H :
 ∀ e, e = h.alloc (.cells (qL a b d) 25 false) →
 ∃ f g i, ldN e h.next 0 3 = some (qL f g i) ∧
 (∃ la4 lb5, keyA Try.prog 25 (.agg (qL f g i).toArray) = some la4 ∧ keyA Try.prog 25 (.agg #[.int .i64 0, .int .u64 0, .int .u32 0]) = some lb5 ∧
 (litsEq la4 lb5 = true → Q (.bool true) e) ∧
 (litsEq la4 lb5 = false → ∃ j, ld1 e h.next 0 = some (.int .i64 j) ∧
 (((4 : Int) ≤ j → ∃ k, ld1 e h.next 0 = some (.int .i64 k) ∧
 (((k : Int) < 1024 → ∃ l, ld1 e h.next 1 = some (.int .u64 l) ∧
 (((1 : Int) ≤ l → ∃ m, ld1 e h.next 1 = some (.int .u64 m) ∧
 (((m : Int) ≤ 281474976710655 → Q (.bool true) e) ∧
 (¬ (m : Int) ≤ 281474976710655 → Q (.bool false) e))) ∧
 (¬ (1 : Int) ≤ l → Q (.bool false) e))) ∧
 (¬ (k : Int) < 1024 → Q (.bool false) e))) ∧
 (¬ (4 : Int) ≤ j → Q (.bool false) e))))) :
 Wf Try.prog K 75 [.agg (qL a b d).toArray] h Q :=
  vcF_sound (hs := []) hk (Eq.mpr (by kernel_rfl) H)
theorem vc_ptr_Less {K : Xs} (hk : K 104 = none) (a : Int) (b : Int) (d : Int) (e : Int) (f : Int) (g : Int) (h : AH) (Q : Value → AH → Prop) (H :
 ∀ i, i = h.alloc (.cells (qL a b d) 25 false) →
 ∀ j, j = i.alloc (.cells (qL e f g) 25 false) →
 ∃ k, ld1 j h.next 1 = some (.int .u64 k) ∧
 (∃ l, ld1 j i.next 1 = some (.int .u64 l) ∧
 (((k : Int) = l → ∃ m, ld1 j h.next 0 = some (.int .i64 m) ∧
 (∃ n, ld1 j i.next 0 = some (.int .i64 n) ∧
 (((m : Int) = n → ∃ o, ld1 j h.next 2 = some (.int .u32 o) ∧
 (∃ p, ld1 j i.next 2 = some (.int .u32 p) ∧
 (((o : Int) < p → Q (.bool true) j) ∧
 (¬ (o : Int) < p → Q (.bool false) j)))) ∧
 (¬ (m : Int) = n → ∃ q, ld1 j h.next 0 = some (.int .i64 q) ∧
 (∃ r, ld1 j i.next 0 = some (.int .i64 r) ∧
 (((q : Int) < r → Q (.bool true) j) ∧
 (¬ (q : Int) < r → Q (.bool false) j))))))) ∧
 (¬ (k : Int) = l → ∃ s, ld1 j h.next 1 = some (.int .u64 s) ∧
 (∃ t, ld1 j i.next 1 = some (.int .u64 t) ∧
 (((s : Int) < t → Q (.bool true) j) ∧
 (¬ (s : Int) < t → Q (.bool false) j))))))) :
 Wf Try.prog K 104 [.agg (qL a b d).toArray, .agg (qL e f g).toArray] h Q :=
  vcF_sound (hs := []) hk (Eq.mpr (by kernel_rfl) H)
theorem vc_dead_Right {K : Xs} (hk : K 76 = none) (a : Option Addr) (b d : Nat) (h : AH) (Q : Value → AH → Prop) (H :
 ∃ e : Int → Nat → AH → Prop, (∃ n, e 0 n h) ∧
 ∀ (f : Nat) (g : AH) (i : Int), e i f g →
 ((i : Int) < ((b : Nat) : Int) → derefP a fun j k => (((0 : Int) ≤ i) ∧ ((i : Int) < ((b : Nat) : Int)) ∧
 (∃ l m o, ldN g j (k + Int.toNat i * 3) 3 = some (qL l m o) ∧
 (∀ p, p = g.alloc (.cells [.int .i64 0, .int .u64 0, .int .u32 0] 25 false) →
 (3 = 3) ∧ ∃ q, stN p g.next 0 (qL l m o) = some q ∧
 (∃ r s t, ldN q g.next 0 3 = some (qL r s t) ∧
 (Wf Try.prog K 103 [.agg (qL r s t).toArray] q fun u v =>
 (((u = (.bool true) ∧
 (((0 : Int) < i → ∀ w : Int, w = IntKind.wrap .i64 (i - 1) → derefP a fun x y => (((0 : Int) ≤ w) ∧ ((w : Int) < ((b : Nat) : Int)) ∧
 (∃ z aa ab, ldN v x (y + Int.toNat w * 3) 3 = some (qL z aa ab) ∧
 (∃ ac ad ae, ldN v g.next 0 3 = some (qL ac ad ae) ∧
 (Wf Try.prog K 104 [.agg (qL z aa ab).toArray, .agg (qL ac ad ae).toArray] v fun af ag =>
 (((af = (.bool true) ∧
 (∀ ah : Int, ah = IntKind.wrap .i64 (i + 1) → ∃ ai, ai < f ∧ e ah ai ag)) ∨ (af = (.bool false) ∧
 (Q (.bool false) ag))))))))) ∧
 (¬ (0 : Int) < i → ∀ aj : Int, aj = IntKind.wrap .i64 (i + 1) → ∃ ai, ai < f ∧ e aj ai v))) ∨ (u = (.bool false) ∧
 (Q (.bool false) v)))))))))) ∧
 (¬ (i : Int) < ((b : Nat) : Int) → Q (.bool true) g)) :
 Wf Try.prog K 76 [.slice a b d] h Q :=
  vcF_sound (hs := [(2, [(7, .int .i64 0)])]) hk (Eq.mpr (by kernel_rfl) H)
theorem vc_dead_fits {K : Xs} (hk : K 103 = none) (a : Int) (b : Int) (d : Int) (h : AH) (Q : Value → AH → Prop) (H :
 ∀ e, e = h.alloc (.cells (qL a b d) 25 false) →
 ∃ f g i, ldN e h.next 0 3 = some (qL f g i) ∧
 (∃ la4 lb5, keyA Try.prog 25 (.agg (qL f g i).toArray) = some la4 ∧ keyA Try.prog 25 (.agg #[.int .i64 0, .int .u64 0, .int .u32 0]) = some lb5 ∧
 (litsEq la4 lb5 = true → Q (.bool false) e) ∧
 (litsEq la4 lb5 = false → ∃ j k l, ldN e h.next 0 3 = some (qL j k l) ∧
 (Wf Try.prog K 75 [.agg (qL j k l).toArray] e fun m n =>
 (((m = (.bool true) ∧
 (Q (.bool true) n)) ∨ (m = (.bool false) ∧
 (Q (.bool false) n)))))))) :
 Wf Try.prog K 103 [.agg (qL a b d).toArray] h Q :=
  vcF_sound (hs := []) hk (Eq.mpr (by kernel_rfl) H)
theorem vc_strings_Cut {K : Xs} (hk : K 73 = none) (a : ByteArray) (b : ByteArray) (h : AH) (Q : Value → AH → Prop) (H :
 Wf Try.prog K 102 [.string a, .string b] h fun d e =>
 (∃ f g, ((d = (.tuple #[.string f, .string g, .bool true]) ∧
 (Q (.tuple #[.string f, .string g, .bool true]) e)) ∨ (d = (.tuple #[.string f, .string g, .bool false]) ∧
 (Q (.tuple #[.string f, .string g, .bool false]) e))))) :
 Wf Try.prog K 73 [.string a, .string b] h Q :=
  vcF_sound (hs := []) hk (Eq.mpr (by kernel_rfl) H)
theorem vc_stringslite_Cut {K : Xs} (hk : K 102 = none) (a : ByteArray) (b : ByteArray) (h : AH) (Q : Value → AH → Prop) (H :
 Wf Try.prog K 112 [.string a, .string b] h fun d e =>
 (∃ f, d = (.int .i64 f) ∧
 (((0 : Int) ≤ f → ∃ g, aSlice Try.prog e 9 (.string a) none (some (.int .i64 f)) none = some (.string g) ∧
 (∀ i : Int, i = IntKind.wrap .i64 (f + ((ByteArray.size b : Nat) : Int)) → ∃ j, aSlice Try.prog e 9 (.string a) (some (.int .i64 i)) none none = some (.string j) ∧
 (Q (.tuple #[.string g, .string j, .bool true]) e))) ∧
 (¬ (0 : Int) ≤ f → Q (.tuple #[.string a, (.string (ByteArray.mk #[])), .bool false]) e)))) :
 Wf Try.prog K 102 [.string a, .string b] h Q :=
  vcF_sound (hs := []) hk (Eq.mpr (by kernel_rfl) H)
theorem vc_stringslite_Index {K : Xs} (hk : K 112 = none) (a : ByteArray) (b : ByteArray) (h : AH) (Q : Value → AH → Prop) (H :
 ((((ByteArray.size b : Nat) : Int) : Int) = 0 → Q (.int .i64 0) h) ∧
 (¬ (((ByteArray.size b : Nat) : Int) : Int) = 0 → (b = a → Q (.int .i64 0) h) ∧
 (¬ b = a → ((((ByteArray.size b : Nat) : Int) : Int) = 1 → ((0 : Int) ≤ 0) ∧ ∃ d : UInt8, b[Int.toNat 0]? = some d ∧
 (Wf Try.prog K 114 [.string a, (.int .u8 ((d.toNat : Nat) : Int))] h fun e f =>
 (∃ g, e = (.int .i64 g) ∧
 (Q (.int .i64 g) f)))) ∧
 (¬ (((ByteArray.size b : Nat) : Int) : Int) = 1 → ((((ByteArray.size a : Nat) : Int) : Int) ≤ ((ByteArray.size b : Nat) : Int) → Q (.int .i64 (-1)) h) ∧
 (¬ (((ByteArray.size a : Nat) : Int) : Int) ≤ ((ByteArray.size b : Nat) : Int) → False))))) :
 Wf Try.prog K 112 [.string a, .string b] h Q :=
  vcF_sound (hs := []) hk (Eq.mpr (by kernel_rfl) H)
theorem vc_stringslite_IndexByte {K : Xs} (hk : K 114 = none) (a : ByteArray) (b : Int) (h : AH) (Q : Value → AH → Prop) (H :
 Wf Try.prog K 118 [.string a, .int .u8 b] h fun d e =>
 (∃ f, d = (.int .i64 f) ∧
 (Q (.int .i64 f) e))) :
 Wf Try.prog K 114 [.string a, .int .u8 b] h Q :=
  vcF_sound (hs := []) hk (Eq.mpr (by kernel_rfl) H)
end Go.Am
