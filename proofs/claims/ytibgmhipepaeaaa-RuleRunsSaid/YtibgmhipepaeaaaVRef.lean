/-
  WEAKEST CONDITIONS of some functions of this program, printed by a program.
-/
import Derived.Test.YtibgmhipepaeaaaVAbb
import Derived.Test.YtibgmhipepaeaaaRows
set_option linter.unusedVariables false
set_option maxRecDepth 100000
namespace Go.Am
open Go.Proofs
theorem vc_aquiferref16_Find {K : Xs} (hk : K 25 = none) (a : Option Addr) (b d : Nat) (e : Int) (h : AH) (Q : Value → AH → Prop) (H :
 ∀ f, f = h.alloc (.cells (zC) 28 false) →
 ∃ g : Int → Nat → AH → Prop, (∃ n, g 0 n f) ∧
 ∀ (i : Nat) (j : AH) (k : Int), g k i j →
 ((k : Int) < ((b : Nat) : Int) → derefP a fun l m => (((0 : Int) ≤ k) ∧ ((k : Int) < ((b : Nat) : Int)) ∧
 (∃ o p q r s t u v w x y z aa, ldN j l (m + Int.toNat k * 11) 11 = some (sC o p q r s t u v w x y z aa) ∧
 (∀ ab, ab = j.alloc (.cells (zC) 28 false) →
 (11 = 11) ∧ ∃ ac, stN ab j.next 0 (sC o p q r s t u v w x y z aa) = some ac ∧
 (∃ ad, ld1 ac j.next 0 = some (.int .u64 ad) ∧
 (((ad : Int) = e → ∃ ae af ag ah ai aj ak al am an ao ap aq, ldN ac j.next 0 11 = some (sC ae af ag ah ai aj ak al am an ao ap aq) ∧
 ((11 = 11) ∧ ∃ ar, stN ac h.next 0 (sC ae af ag ah ai aj ak al am an ao ap aq) = some ar ∧
 (∃ au av aw ax ay az a0 a1 a2 a3 a4 a5 a6, ldN ar h.next 0 11 = some (sC au av aw ax ay az a0 a1 a2 a3 a4 a5 a6) ∧
 (Q (.tuple #[.agg (sC au av aw ax ay az a0 a1 a2 a3 a4 a5 a6).toArray, .bool true]) ar)))) ∧
 (¬ (ad : Int) = e → ∀ a7 : Int, a7 = IntKind.wrap .i64 (k + 1) → ∃ a8, a8 < i ∧ g a7 a8 ac))))))) ∧
 (¬ (k : Int) < ((b : Nat) : Int) → (11 = 11) ∧ ∃ a9, stN j h.next 0 (zC) = some a9 ∧
 (∃ ba bb bc bd be bf bg bh bi bj bk bl bm, ldN a9 h.next 0 11 = some (sC ba bb bc bd be bf bg bh bi bj bk bl bm) ∧
 (Q (.tuple #[.agg (sC ba bb bc bd be bf bg bh bi bj bk bl bm).toArray, .bool false]) a9)))) :
 Wf Try.prog K 25 [.slice a b d, .int .u64 e] h Q :=
  vcF_sound (hs := [(2, [(10, .int .i64 0)])]) hk (Eq.mpr (by kernel_rfl) H)
theorem vc_aquiferref16_Named {K : Xs} (hk : K 26 = none) (a : Option Addr) (b d : Nat) (e : ByteArray) (h : AH) (Q : Value → AH → Prop) (H :
 ∀ f, f = h.alloc (.cells (zC) 28 false) →
 Wf Try.prog K 59 [.string e] f fun g i =>
 (∃ j k l, g = (.tuple #[.string j, .string k, .int .i64 l]) ∧
 (((l : Int) = 0 → ∃ m : Int → Nat → AH → Prop, (∃ n, m 0 n i) ∧
 ∀ (o : Nat) (p : AH) (q : Int), m q o p →
 ((q : Int) < ((b : Nat) : Int) → derefP a fun r s => (((0 : Int) ≤ q) ∧ ((q : Int) < ((b : Nat) : Int)) ∧
 (∃ t u v w x y z aa ab ac ad ae af, ldN p r (s + Int.toNat q * 11) 11 = some (sC t u v w x y z aa ab ac ad ae af) ∧
 (∀ ag, ag = p.alloc (.cells (zC) 28 false) →
 (11 = 11) ∧ ∃ ah, stN ag p.next 0 (sC t u v w x y z aa ab ac ad ae af) = some ah ∧
 (((ld1 ah p.next 2 = some (.bool true) ∧
 (∀ ai : Int, ai = IntKind.wrap .i64 (q + 1) → ∃ aj, aj < o ∧ m ai aj ah)) ∨ (ld1 ah p.next 2 = some (.bool false) ∧
 (∃ ak, ld1 ah p.next 1 = some (.string ak) ∧
 ((ak = j → (k = (ByteArray.mk #[]) → ∃ al am an ao ap aq ar au av aw ax ay az, ldN ah p.next 0 11 = some (sC al am an ao ap aq ar au av aw ax ay az) ∧
 ((11 = 11) ∧ ∃ a0, stN ah h.next 0 (sC al am an ao ap aq ar au av aw ax ay az) = some a0 ∧
 (∃ a1 a2 a3 a4 a5 a6 a7 a8 a9 ba bb bc bd, ldN a0 h.next 0 11 = some (sC a1 a2 a3 a4 a5 a6 a7 a8 a9 ba bb bc bd) ∧
 (Q (.tuple #[.agg (sC a1 a2 a3 a4 a5 a6 a7 a8 a9 ba bb bc bd).toArray, .int .i64 0]) a0)))) ∧
 (¬ k = (ByteArray.mk #[]) → ∃ be : Int → Nat → AH → Prop, (∃ n, be 0 n ah) ∧
 ∀ (bf : Nat) (bg : AH) (bh : Int), be bh bf bg →
 ((bh : Int) < ((b : Nat) : Int) → derefP a fun bi bj => (((0 : Int) ≤ bh) ∧ ((bh : Int) < ((b : Nat) : Int)) ∧
 (∃ bk bl bm bn bo bp bq br bs bt bu bv bw, ldN bg bi (bj + Int.toNat bh * 11) 11 = some (sC bk bl bm bn bo bp bq br bs bt bu bv bw) ∧
 (∀ bx, bx = bg.alloc (.cells (zC) 28 false) →
 (11 = 11) ∧ ∃ bz, stN bx bg.next 0 (sC bk bl bm bn bo bp bq br bs bt bu bv bw) = some bz ∧
 (((ld1 bz bg.next 2 = some (.bool true) ∧
 (∃ b0, ld1 bz bg.next 3 = some (.int .u64 b0) ∧
 (∃ b1, ld1 bz p.next 0 = some (.int .u64 b1) ∧
 (((b0 : Int) = b1 → ∃ b2, ld1 bz bg.next 1 = some (.string b2) ∧
 ((b2 = k → ∃ b3 b4 b5 b6 b7 b8 b9 da db dc dd de df, ldN bz bg.next 0 11 = some (sC b3 b4 b5 b6 b7 b8 b9 da db dc dd de df) ∧
 ((11 = 11) ∧ ∃ dg, stN bz h.next 0 (sC b3 b4 b5 b6 b7 b8 b9 da db dc dd de df) = some dg ∧
 (∃ dh di dj dk dl dm dn dp dq dr ds dt du, ldN dg h.next 0 11 = some (sC dh di dj dk dl dm dn dp dq dr ds dt du) ∧
 (Q (.tuple #[.agg (sC dh di dj dk dl dm dn dp dq dr ds dt du).toArray, .int .i64 0]) dg)))) ∧
 (¬ b2 = k → ∀ dv : Int, dv = IntKind.wrap .i64 (bh + 1) → ∃ dw, dw < bf ∧ be dv dw bz))) ∧
 (¬ (b0 : Int) = b1 → ∀ dx : Int, dx = IntKind.wrap .i64 (bh + 1) → ∃ dw, dw < bf ∧ be dx dw bz))))) ∨ (ld1 bz bg.next 2 = some (.bool false) ∧
 (∀ dy : Int, dy = IntKind.wrap .i64 (bh + 1) → ∃ dw, dw < bf ∧ be dy dw bz)))))))) ∧
 (¬ (bh : Int) < ((b : Nat) : Int) → ∀ dz : Int, dz = IntKind.wrap .i64 (q + 1) → ∃ aj, aj < o ∧ m dz aj bg))) ∧
 (¬ ak = j → ∀ d0 : Int, d0 = IntKind.wrap .i64 (q + 1) → ∃ aj, aj < o ∧ m d0 aj ah)))))))))) ∧
 (¬ (q : Int) < ((b : Nat) : Int) → (11 = 11) ∧ ∃ d1, stN p h.next 0 (zC) = some d1 ∧
 (∃ d2 d3 d4 d5 d6 d7 d8 d9 ea eb ec ed ee, ldN d1 h.next 0 11 = some (sC d2 d3 d4 d5 d6 d7 d8 d9 ea eb ec ed ee) ∧
 (Q (.tuple #[.agg (sC d2 d3 d4 d5 d6 d7 d8 d9 ea eb ec ed ee).toArray, .int .i64 161]) d1)))) ∧
 (¬ (l : Int) = 0 → (11 = 11) ∧ ∃ ef, stN i h.next 0 (zC) = some ef ∧
 (∃ eg eh ei ej ek el em en eo ep eq er es, ldN ef h.next 0 11 = some (sC eg eh ei ej ek el em en eo ep eq er es) ∧
 (Q (.tuple #[.agg (sC eg eh ei ej ek el em en eo ep eq er es).toArray, .int .i64 141]) ef)))))) :
 Wf Try.prog K 26 [.slice a b d, .string e] h Q :=
  vcF_sound (hs := [(5, [(24, .int .i64 0)]), (11, [(41, .int .i64 0)])]) hk (Eq.mpr (by kernel_rfl) H)
theorem vc_aquiferref16_Kids {K : Xs} (hk : K 29 = none) (a : Option Addr) (b d : Nat) (e : Int) (h : AH) (Q : Value → AH → Prop) (H :
 ∀ f, f = h.alloc (.cells [] 22 false) →
 ∀ g, g = f.alloc (.cells [] 22 false) →
 Wf Try.prog K 25 [.slice a b d, .int .u64 e] g fun i j =>
 (∃ k l m o p q r s t u v w x, ((i = (.tuple #[.agg (sC k l m o p q r s t u v w x).toArray, .bool true]) ∧
 (∀ y, y = j.alloc (.cells (zC) 28 false) →
 (11 = 11) ∧ ∃ z, stN y j.next 0 (sC k l m o p q r s t u v w x) = some z ∧
 (((ld1 z j.next 2 = some (.bool true) ∧
 (∃ aa : Option Addr → Nat → Nat → Option Addr → Nat → Nat → Int → Nat → AH → Prop, (∃ n, aa (some ⟨h.next, 0, none⟩) 0 0 (some ⟨f.next, 0, none⟩) 0 0 0 n z) ∧
 ∀ (ab : Nat) (ac : AH) (ad : Option Addr) (ae : Nat) (af : Nat) (ag : Option Addr) (ah : Nat) (ai : Nat) (aj : Int), aa ad ae af ag ah ai aj ab ac →
 ((aj : Int) < ((b : Nat) : Int) → derefP a fun ak al => (((0 : Int) ≤ aj) ∧ ((aj : Int) < ((b : Nat) : Int)) ∧
 (∃ am an ao ap aq ar au av aw ax ay az a0, ldN ac ak (al + Int.toNat aj * 11) 11 = some (sC am an ao ap aq ar au av aw ax ay az a0) ∧
 (∀ a1, a1 = ac.alloc (.cells (zC) 28 false) →
 (11 = 11) ∧ ∃ a2, stN a1 ac.next 0 (sC am an ao ap aq ar au av aw ax ay az a0) = some a2 ∧
 (∃ a3, ld1 a2 ac.next 4 = some (.int .u64 a3) ∧
 (((a3 : Int) = e → ∃ a4, ld1 a2 ac.next 3 = some (.int .u64 a4) ∧
 (∃ a5, ld1 a2 j.next 3 = some (.int .u64 a5) ∧
 (((a4 : Int) = a5 → ∃ a6, ld1 a2 ac.next 0 = some (.int .u64 a6) ∧
 (∀ a7, a7 = a2.alloc (.cells [.int .u64 a6] 22 false) →
 ∃ a8 a9 ba bb, aBuiltin Try.prog a7 .append #[39, 39] [.slice ad ae af, (.slice (some ⟨a2.next, 0, none⟩) 1 1)] = some (.slice a8 a9 ba, bb) ∧
 (∀ bc : Int, bc = IntKind.wrap .i64 (aj + 1) → ∃ bd, bd < ab ∧ aa a8 a9 ba ag ah ai bc bd bb))) ∧
 (¬ (a4 : Int) = a5 → ∃ be, ld1 a2 ac.next 4 = some (.int .u64 be) ∧
 (((be : Int) = e → ∃ bf, ld1 a2 ac.next 0 = some (.int .u64 bf) ∧
 (∀ bg, bg = a2.alloc (.cells [.int .u64 bf] 22 false) →
 ∃ bh bi bj bk, aBuiltin Try.prog bg .append #[39, 39] [.slice ag ah ai, (.slice (some ⟨a2.next, 0, none⟩) 1 1)] = some (.slice bh bi bj, bk) ∧
 (∀ bl : Int, bl = IntKind.wrap .i64 (aj + 1) → ∃ bd, bd < ab ∧ aa ad ae af bh bi bj bl bd bk))) ∧
 (¬ (be : Int) = e → ∀ bm : Int, bm = IntKind.wrap .i64 (aj + 1) → ∃ bd, bd < ab ∧ aa ad ae af ag ah ai bm bd a2)))))) ∧
 (¬ (a3 : Int) = e → ∃ bn, ld1 a2 ac.next 4 = some (.int .u64 bn) ∧
 (((bn : Int) = e → ∃ bo, ld1 a2 ac.next 0 = some (.int .u64 bo) ∧
 (∀ bp, bp = a2.alloc (.cells [.int .u64 bo] 22 false) →
 ∃ bq br bs bt, aBuiltin Try.prog bp .append #[39, 39] [.slice ag ah ai, (.slice (some ⟨a2.next, 0, none⟩) 1 1)] = some (.slice bq br bs, bt) ∧
 (∀ bu : Int, bu = IntKind.wrap .i64 (aj + 1) → ∃ bd, bd < ab ∧ aa ad ae af bq br bs bu bd bt))) ∧
 (¬ (bn : Int) = e → ∀ bv : Int, bv = IntKind.wrap .i64 (aj + 1) → ∃ bd, bd < ab ∧ aa ad ae af ag ah ai bv bd a2))))))))) ∧
 (¬ (aj : Int) < ((b : Nat) : Int) → Q (.tuple #[.slice ad ae af, .slice ag ah ai]) ac))) ∨ (ld1 z j.next 2 = some (.bool false) ∧
 (Q (.tuple #[(.slice (some ⟨h.next, 0, none⟩) 0 0), (.slice (some ⟨f.next, 0, none⟩) 0 0)]) z)))))) ∨ (i = (.tuple #[.agg (sC k l m o p q r s t u v w x).toArray, .bool false]) ∧
 (∀ bw, bw = j.alloc (.cells (zC) 28 false) →
 (11 = 11) ∧ ∃ bx, stN bw j.next 0 (sC k l m o p q r s t u v w x) = some bx ∧
 (Q (.tuple #[(.slice (some ⟨h.next, 0, none⟩) 0 0), (.slice (some ⟨f.next, 0, none⟩) 0 0)]) bx)))))) :
 Wf Try.prog K 29 [.slice a b d, .int .u64 e] h Q :=
  vcF_sound (hs := [(7, [(6, .slice none 0 0), (7, .slice none 0 0), (31, .int .i64 0)])]) hk (Eq.mpr (by kernel_rfl) H)
theorem vc_aquiferref16_Back {K : Xs} (hk : K 30 = none) (a : Option Addr) (b d : Nat) (e : Int) (h : AH) (Q : Value → AH → Prop) (H :
 ∀ f, f = h.alloc (.cells [] 22 false) →
 Wf Try.prog K 25 [.slice a b d, .int .u64 e] f fun g i =>
 (∃ j k l m o p q r s t u v w, ((g = (.tuple #[.agg (sC j k l m o p q r s t u v w).toArray, .bool true]) ∧
 (∀ x, x = i.alloc (.cells (zC) 28 false) →
 (11 = 11) ∧ ∃ y, stN x i.next 0 (sC j k l m o p q r s t u v w) = some y ∧
 (((ld1 y i.next 2 = some (.bool true) ∧
 (Q (.tuple #[(.slice (some ⟨h.next, 0, none⟩) 0 0), .int .u64 0]) y)) ∨ (ld1 y i.next 2 = some (.bool false) ∧
 (∃ z, ld1 y i.next 4 = some (.int .u64 z) ∧
 (∃ aa : Option Addr → Nat → Nat → Int → Int → Nat → AH → Prop, (∃ n, aa (some ⟨h.next, 0, none⟩) 0 0 z 0 n y) ∧
 ∀ (ab : Nat) (ac : AH) (ad : Option Addr) (ae : Nat) (af : Nat) (ag : Int) (ah : Int), aa ad ae af ag ah ab ac →
 ((ah : Int) < ((b : Nat) : Int) → Wf Try.prog K 25 [.slice a b d, .int .u64 ag] ac fun ai aj =>
 (∃ ak al am an ao ap aq ar au av aw ax ay, ((ai = (.tuple #[.agg (sC ak al am an ao ap aq ar au av aw ax ay).toArray, .bool true]) ∧
 (∀ az, az = aj.alloc (.cells (zC) 28 false) →
 (11 = 11) ∧ ∃ a0, stN az aj.next 0 (sC ak al am an ao ap aq ar au av aw ax ay) = some a0 ∧
 (∃ a1, ld1 a0 aj.next 3 = some (.int .u64 a1) ∧
 (((a1 : Int) = e → ∀ a2, a2 = a0.alloc (.cells [.int .u64 ag] 22 false) →
 ∃ a3 a4 a5 a6, aBuiltin Try.prog a2 .append #[39, 39] [.slice ad ae af, (.slice (some ⟨a0.next, 0, none⟩) 1 1)] = some (.slice a3 a4 a5, a6) ∧
 (∃ a7, ld1 a6 aj.next 4 = some (.int .u64 a7) ∧
 (∀ a8 : Int, a8 = IntKind.wrap .i64 (ah + 1) → ∃ a9, a9 < ab ∧ aa a3 a4 a5 a7 a8 a9 a6))) ∧
 (¬ (a1 : Int) = e → Q (.tuple #[.slice ad ae af, .int .u64 ag]) a0))))) ∨ (ai = (.tuple #[.agg (sC ak al am an ao ap aq ar au av aw ax ay).toArray, .bool false]) ∧
 (∀ ba, ba = aj.alloc (.cells (zC) 28 false) →
 (11 = 11) ∧ ∃ bb, stN ba aj.next 0 (sC ak al am an ao ap aq ar au av aw ax ay) = some bb ∧
 (Q (.tuple #[.slice ad ae af, .int .u64 ag]) bb)))))) ∧
 (¬ (ah : Int) < ((b : Nat) : Int) → Q (.tuple #[.slice ad ae af, .int .u64 ag]) ac)))))))) ∨ (g = (.tuple #[.agg (sC j k l m o p q r s t u v w).toArray, .bool false]) ∧
 (∀ bc, bc = i.alloc (.cells (zC) 28 false) →
 (11 = 11) ∧ ∃ bd, stN bc i.next 0 (sC j k l m o p q r s t u v w) = some bd ∧
 (Q (.tuple #[(.slice (some ⟨h.next, 0, none⟩) 0 0), .int .u64 0]) bd)))))) :
 Wf Try.prog K 30 [.slice a b d, .int .u64 e] h Q :=
  vcF_sound (hs := [(7, [(6, .slice none 0 0), (9, .int .u64 0), (10, .int .i64 0)])]) hk (Eq.mpr (by kernel_rfl) H)
theorem vc_aquiferref16_Floor {K : Xs} (hk : K 33 = none) (a : Option Addr) (b d : Nat) (e : Int) (h : AH) (Q : Value → AH → Prop) (H :
 Wf Try.prog K 25 [.slice a b d, .int .u64 e] h fun f g =>
 (∃ i j k l m o p q r s t u v, ((f = (.tuple #[.agg (sC i j k l m o p q r s t u v).toArray, .bool true]) ∧
 (∀ w, w = g.alloc (.cells (zC) 28 false) →
 (11 = 11) ∧ ∃ x, stN w g.next 0 (sC i j k l m o p q r s t u v) = some x ∧
 (∃ y, ld1 x g.next 4 = some (.int .u64 y) ∧
 (Wf Try.prog K 25 [.slice a b d, .int .u64 y] x fun z aa =>
 (∃ ab ac ad ae af ag ah ai aj ak al am an, ((z = (.tuple #[.agg (sC ab ac ad ae af ag ah ai aj ak al am an).toArray, .bool true]) ∧
 (∀ ao, ao = aa.alloc (.cells (zC) 28 false) →
 (11 = 11) ∧ ∃ ap, stN ao aa.next 0 (sC ab ac ad ae af ag ah ai aj ak al am an) = some ap ∧
 (∃ aq, ld1 ap aa.next 5 = some (.int .u64 aq) ∧
 (Q (.int .u64 aq) ap)))) ∨ (z = (.tuple #[.agg (sC ab ac ad ae af ag ah ai aj ak al am an).toArray, .bool false]) ∧
 (∀ ar, ar = aa.alloc (.cells (zC) 28 false) →
 (11 = 11) ∧ ∃ au, stN ar aa.next 0 (sC ab ac ad ae af ag ah ai aj ak al am an) = some au ∧
 (Q (.int .u64 0) au))))))))) ∨ (f = (.tuple #[.agg (sC i j k l m o p q r s t u v).toArray, .bool false]) ∧
 (∀ av, av = g.alloc (.cells (zC) 28 false) →
 (11 = 11) ∧ ∃ aw, stN av g.next 0 (sC i j k l m o p q r s t u v) = some aw ∧
 (Q (.int .u64 0) aw)))))) :
 Wf Try.prog K 33 [.slice a b d, .int .u64 e] h Q :=
  vcF_sound (hs := []) hk (Eq.mpr (by kernel_rfl) H)
theorem vc_aquiferref15_Same {K : Xs} (hk : K 27 = none) (a : Int) (b : ByteArray) (d : Bool) (e : Int) (f : Int) (g : Int) (i : Int) (j : Int) (k : Int) (l : Int) (m : Option Addr) (n o : Nat) (p : Int) (q : ByteArray) (r : Bool) (s : Int) (t : Int) (u : Int) (v : Int) (w : Int) (x : Int) (y : Int) (z : Option Addr) (aa ab : Nat) (h : AH) (Q : Value → AH → Prop) (H :
 ∀ ac, ac = h.alloc (.cells (sC a b d e f g i j k l m n o) 28 false) →
 ∀ ad, ad = ac.alloc (.cells (sC p q r s t u v w x y z aa ab) 28 false) →
 ∃ ae, ld1 ad h.next 0 = some (.int .u64 ae) ∧
 (∃ af, ld1 ad ac.next 0 = some (.int .u64 af) ∧
 (((ae : Int) = af → ∃ ag, ld1 ad h.next 1 = some (.string ag) ∧
 (∃ ah, ld1 ad ac.next 1 = some (.string ah) ∧
 ((ag = ah → ((ld1 ad h.next 2 = some (.bool true) ∧
 (((ld1 ad ac.next 2 = some (.bool true) ∧
 (∃ ai, ld1 ad h.next 3 = some (.int .u64 ai) ∧
 (∃ aj, ld1 ad ac.next 3 = some (.int .u64 aj) ∧
 (((ai : Int) = aj → ∃ ak, ld1 ad h.next 4 = some (.int .u64 ak) ∧
 (∃ al, ld1 ad ac.next 4 = some (.int .u64 al) ∧
 (((ak : Int) = al → ∃ am, ld1 ad h.next 5 = some (.int .u64 am) ∧
 (∃ an, ld1 ad ac.next 5 = some (.int .u64 an) ∧
 (((am : Int) = an → ∃ ao, ld1 ad h.next 6 = some (.int .i64 ao) ∧
 (∃ ap, ld1 ad ac.next 6 = some (.int .i64 ap) ∧
 (((ao : Int) = ap → ∃ aq ar au, ldN ad h.next 7 3 = some (qL aq ar au) ∧
 (∃ av aw ax, ldN ad ac.next 7 3 = some (qL av aw ax) ∧
 (∃ la20 lb21, keyA Try.prog 25 (.agg (qL aq ar au).toArray) = some la20 ∧ keyA Try.prog 25 (.agg (qL av aw ax).toArray) = some lb21 ∧
 (litsEq la20 lb21 = true → ∃ ay az a0, ld1 ad h.next 10 = some (.slice ay az a0) ∧
 (∃ a1 a2 a3, ld1 ad ac.next 10 = some (.slice a1 a2 a3) ∧
 (Wf Try.prog K 39 [.slice ay az a0, .slice a1 a2 a3] ad fun a4 a5 =>
 (((a4 = (.bool true) ∧
 (Q (.bool true) a5)) ∨ (a4 = (.bool false) ∧
 (Q (.bool false) a5))))))) ∧
 (litsEq la20 lb21 = false → Q (.bool false) ad)))) ∧
 (¬ (ao : Int) = ap → Q (.bool false) ad)))) ∧
 (¬ (am : Int) = an → Q (.bool false) ad)))) ∧
 (¬ (ak : Int) = al → Q (.bool false) ad)))) ∧
 (¬ (ai : Int) = aj → Q (.bool false) ad))))) ∨ (ld1 ad ac.next 2 = some (.bool false) ∧
 (Q (.bool false) ad))))) ∨ (ld1 ad h.next 2 = some (.bool false) ∧
 (((ld1 ad ac.next 2 = some (.bool true) ∧
 (Q (.bool false) ad)) ∨ (ld1 ad ac.next 2 = some (.bool false) ∧
 (∃ a6, ld1 ad h.next 3 = some (.int .u64 a6) ∧
 (∃ a7, ld1 ad ac.next 3 = some (.int .u64 a7) ∧
 (((a6 : Int) = a7 → ∃ a8, ld1 ad h.next 4 = some (.int .u64 a8) ∧
 (∃ a9, ld1 ad ac.next 4 = some (.int .u64 a9) ∧
 (((a8 : Int) = a9 → ∃ ba, ld1 ad h.next 5 = some (.int .u64 ba) ∧
 (∃ bb, ld1 ad ac.next 5 = some (.int .u64 bb) ∧
 (((ba : Int) = bb → ∃ bc, ld1 ad h.next 6 = some (.int .i64 bc) ∧
 (∃ bd, ld1 ad ac.next 6 = some (.int .i64 bd) ∧
 (((bc : Int) = bd → ∃ be bf bg, ldN ad h.next 7 3 = some (qL be bf bg) ∧
 (∃ bh bi bj, ldN ad ac.next 7 3 = some (qL bh bi bj) ∧
 (∃ la44 lb45, keyA Try.prog 25 (.agg (qL be bf bg).toArray) = some la44 ∧ keyA Try.prog 25 (.agg (qL bh bi bj).toArray) = some lb45 ∧
 (litsEq la44 lb45 = true → ∃ bk bl bm, ld1 ad h.next 10 = some (.slice bk bl bm) ∧
 (∃ bn bo bp, ld1 ad ac.next 10 = some (.slice bn bo bp) ∧
 (Wf Try.prog K 39 [.slice bk bl bm, .slice bn bo bp] ad fun bq br =>
 (((bq = (.bool true) ∧
 (Q (.bool true) br)) ∨ (bq = (.bool false) ∧
 (Q (.bool false) br))))))) ∧
 (litsEq la44 lb45 = false → Q (.bool false) ad)))) ∧
 (¬ (bc : Int) = bd → Q (.bool false) ad)))) ∧
 (¬ (ba : Int) = bb → Q (.bool false) ad)))) ∧
 (¬ (a8 : Int) = a9 → Q (.bool false) ad)))) ∧
 (¬ (a6 : Int) = a7 → Q (.bool false) ad)))))))))) ∧
 (¬ ag = ah → Q (.bool false) ad)))) ∧
 (¬ (ae : Int) = af → Q (.bool false) ad)))) :
 Wf Try.prog K 27 [.agg (sC a b d e f g i j k l m n o).toArray, .agg (sC p q r s t u v w x y z aa ab).toArray] h Q :=
  vcF_sound (hs := []) hk (Eq.mpr (by kernel_rfl) H)
theorem vc_aquiferref15_SameList {K : Xs} (hk : K 34 = none) (a : Option Addr) (b d : Nat) (e : Option Addr) (f g : Nat) (h : AH) (Q : Value → AH → Prop) (H :
 ((((b : Nat) : Int) : Int) = ((f : Nat) : Int) → ∃ i : Int → Nat → AH → Prop, (∃ n, i 0 n h) ∧
 ∀ (j : Nat) (k : AH) (l : Int), i l j k →
 ((l : Int) < ((b : Nat) : Int) → derefP a fun m o => (((0 : Int) ≤ l) ∧ ((l : Int) < ((b : Nat) : Int)) ∧
 (∃ p q r s t u v w x y z aa ab, ldN k m (o + Int.toNat l * 11) 11 = some (sC p q r s t u v w x y z aa ab) ∧
 (derefP e fun ac ad => (((0 : Int) ≤ l) ∧ ((l : Int) < ((f : Nat) : Int)) ∧
 (∃ ae af ag ah ai aj ak al am an ao ap aq, ldN k ac (ad + Int.toNat l * 11) 11 = some (sC ae af ag ah ai aj ak al am an ao ap aq) ∧
 (Wf Try.prog K 27 [.agg (sC p q r s t u v w x y z aa ab).toArray, .agg (sC ae af ag ah ai aj ak al am an ao ap aq).toArray] k fun ar au =>
 (((ar = (.bool true) ∧
 (∀ av : Int, av = IntKind.wrap .i64 (l + 1) → ∃ aw, aw < j ∧ i av aw au)) ∨ (ar = (.bool false) ∧
 (Q (.bool false) au))))))))))) ∧
 (¬ (l : Int) < ((b : Nat) : Int) → Q (.bool true) k)) ∧
 (¬ (((b : Nat) : Int) : Int) = ((f : Nat) : Int) → Q (.bool false) h)) :
 Wf Try.prog K 34 [.slice a b d, .slice e f g] h Q :=
  vcF_sound (hs := [(4, [(13, .int .i64 0)])]) hk (Eq.mpr (by kernel_rfl) H)
theorem vc_aquiferref14_Split {K : Xs} (hk : K 59 = none) (a : ByteArray) (h : AH) (Q : Value → AH → Prop) (H :
 Wf Try.prog K 82 [.string a] h fun b d =>
 (((b = (.bool true) ∧
 (Q (.tuple #[.string a, (.string (ByteArray.mk #[])), .int .i64 0]) d)) ∨ (b = (.bool false) ∧
 (∃ e : Int → Nat → AH → Prop, (∃ n, e 0 n d) ∧
 ∀ (f : Nat) (g : AH) (i : Int), e i f g →
 ((i : Int) < ((ByteArray.size a : Nat) : Int) → ((0 : Int) ≤ i) ∧ ∃ j : UInt8, a[Int.toNat i]? = some j ∧
 (((((j.toNat : Nat) : Int) : Int) = 64 → ∃ k, aSlice Try.prog g 9 (.string a) none (some (.int .i64 i)) none = some (.string k) ∧
 (Wf Try.prog K 82 [.string k] g fun l m =>
 (((l = (.bool true) ∧
 (∀ o : Int, o = IntKind.wrap .i64 (i + 1) → ∃ p, aSlice Try.prog m 9 (.string a) (some (.int .i64 o)) none none = some (.string p) ∧
 (Wf Try.prog K 82 [.string p] m fun q r =>
 (((q = (.bool true) ∧
 (∃ s, aSlice Try.prog r 9 (.string a) none (some (.int .i64 i)) none = some (.string s) ∧
 (∀ t : Int, t = IntKind.wrap .i64 (i + 1) → ∃ u, aSlice Try.prog r 9 (.string a) (some (.int .i64 t)) none none = some (.string u) ∧
 (Q (.tuple #[.string s, .string u, .int .i64 0]) r)))) ∨ (q = (.bool false) ∧
 (∀ v : Int, v = IntKind.wrap .i64 (i + 1) → ∃ w, w < f ∧ e v w r))))))) ∨ (l = (.bool false) ∧
 (∀ x : Int, x = IntKind.wrap .i64 (i + 1) → ∃ w, w < f ∧ e x w m)))))) ∧
 (¬ (((j.toNat : Nat) : Int) : Int) = 64 → ∀ y : Int, y = IntKind.wrap .i64 (i + 1) → ∃ w, w < f ∧ e y w g))) ∧
 (¬ (i : Int) < ((ByteArray.size a : Nat) : Int) → Q (.tuple #[(.string (ByteArray.mk #[])), (.string (ByteArray.mk #[])), .int .i64 141]) g)))))) :
 Wf Try.prog K 59 [.string a] h Q :=
  vcF_sound (hs := [(4, [(5, .int .i64 0)])]) hk (Eq.mpr (by kernel_rfl) H)
theorem vc_aquiferref14_Right {K : Xs} (hk : K 82 = none) (a : ByteArray) (h : AH) (Q : Value → AH → Prop) (H :
 ((((ByteArray.size a : Nat) : Int) : Int) < 1 → Q (.bool false) h) ∧
 (¬ (((ByteArray.size a : Nat) : Int) : Int) < 1 → ((24 : Int) < ((ByteArray.size a : Nat) : Int) → Q (.bool false) h) ∧
 (¬ (24 : Int) < ((ByteArray.size a : Nat) : Int) → ∃ b : Int → Nat → AH → Prop, (∃ n, b 0 n h) ∧
 ∀ (d : Nat) (e : AH) (f : Int), b f d e →
 ((f : Int) < ((ByteArray.size a : Nat) : Int) → ((0 : Int) ≤ f) ∧ ∃ g : UInt8, a[Int.toNat f]? = some g ∧
 (((97 : Int) ≤ ((g.toNat : Nat) : Int) → ((((g.toNat : Nat) : Int) : Int) ≤ 122 → ∀ i : Int, i = IntKind.wrap .i64 (f + 1) → ∃ j, j < d ∧ b i j e) ∧
 (¬ (((g.toNat : Nat) : Int) : Int) ≤ 122 → ((48 : Int) ≤ ((g.toNat : Nat) : Int) → ((((g.toNat : Nat) : Int) : Int) ≤ 57 → ∀ k : Int, k = IntKind.wrap .i64 (f + 1) → ∃ j, j < d ∧ b k j e) ∧
 (¬ (((g.toNat : Nat) : Int) : Int) ≤ 57 → ((((g.toNat : Nat) : Int) : Int) = 45 → ∀ l : Int, l = IntKind.wrap .i64 (f + 1) → ∃ j, j < d ∧ b l j e) ∧
 (¬ (((g.toNat : Nat) : Int) : Int) = 45 → ((((g.toNat : Nat) : Int) : Int) = 95 → ∀ m : Int, m = IntKind.wrap .i64 (f + 1) → ∃ j, j < d ∧ b m j e) ∧
 (¬ (((g.toNat : Nat) : Int) : Int) = 95 → Q (.bool false) e)))) ∧
 (¬ (48 : Int) ≤ ((g.toNat : Nat) : Int) → ((((g.toNat : Nat) : Int) : Int) = 45 → ∀ o : Int, o = IntKind.wrap .i64 (f + 1) → ∃ j, j < d ∧ b o j e) ∧
 (¬ (((g.toNat : Nat) : Int) : Int) = 45 → ((((g.toNat : Nat) : Int) : Int) = 95 → ∀ p : Int, p = IntKind.wrap .i64 (f + 1) → ∃ j, j < d ∧ b p j e) ∧
 (¬ (((g.toNat : Nat) : Int) : Int) = 95 → Q (.bool false) e))))) ∧
 (¬ (97 : Int) ≤ ((g.toNat : Nat) : Int) → ((48 : Int) ≤ ((g.toNat : Nat) : Int) → ((((g.toNat : Nat) : Int) : Int) ≤ 57 → ∀ q : Int, q = IntKind.wrap .i64 (f + 1) → ∃ j, j < d ∧ b q j e) ∧
 (¬ (((g.toNat : Nat) : Int) : Int) ≤ 57 → ((((g.toNat : Nat) : Int) : Int) = 45 → ∀ r : Int, r = IntKind.wrap .i64 (f + 1) → ∃ j, j < d ∧ b r j e) ∧
 (¬ (((g.toNat : Nat) : Int) : Int) = 45 → ((((g.toNat : Nat) : Int) : Int) = 95 → ∀ s : Int, s = IntKind.wrap .i64 (f + 1) → ∃ j, j < d ∧ b s j e) ∧
 (¬ (((g.toNat : Nat) : Int) : Int) = 95 → Q (.bool false) e)))) ∧
 (¬ (48 : Int) ≤ ((g.toNat : Nat) : Int) → ((((g.toNat : Nat) : Int) : Int) = 45 → ∀ t : Int, t = IntKind.wrap .i64 (f + 1) → ∃ j, j < d ∧ b t j e) ∧
 (¬ (((g.toNat : Nat) : Int) : Int) = 45 → ((((g.toNat : Nat) : Int) : Int) = 95 → ∀ u : Int, u = IntKind.wrap .i64 (f + 1) → ∃ j, j < d ∧ b u j e) ∧
 (¬ (((g.toNat : Nat) : Int) : Int) = 95 → Q (.bool false) e)))))) ∧
 (¬ (f : Int) < ((ByteArray.size a : Nat) : Int) → Q (.bool true) e)))) :
 Wf Try.prog K 82 [.string a] h Q :=
  vcF_sound (hs := [(4, [(3, .int .i64 0)])]) hk (Eq.mpr (by kernel_rfl) H)
theorem vc_aquiferref05_Right {K : Xs} (hk : K 83 = none) (a : Int) (b : Int) (d : Int) (h : AH) (Q : Value → AH → Prop) (H :
 ∀ e, e = h.alloc (.cells (qL a b d) 25 false) →
 ∃ f, ld1 e h.next 0 = some (.int .i64 f) ∧
 (((f : Int) = 0 → ∃ g, ld1 e h.next 1 = some (.int .u64 g) ∧
 (((g : Int) = 0 → ∃ i, ld1 e h.next 2 = some (.int .u32 i) ∧
 (((i : Int) = 0 → Q (.bool true) e) ∧
 (¬ (i : Int) = 0 → ∃ j, ld1 e h.next 0 = some (.int .i64 j) ∧
 (((4 : Int) ≤ j → ∃ k, ld1 e h.next 0 = some (.int .i64 k) ∧
 (((k : Int) ≤ 1023 → ∃ l, ld1 e h.next 1 = some (.int .u64 l) ∧
 (((1 : Int) ≤ l → ∃ m, ld1 e h.next 1 = some (.int .u64 m) ∧
 (((m : Int) < 281474976710656 → Q (.bool true) e) ∧
 (¬ (m : Int) < 281474976710656 → Q (.bool false) e))) ∧
 (¬ (1 : Int) ≤ l → Q (.bool false) e))) ∧
 (¬ (k : Int) ≤ 1023 → Q (.bool false) e))) ∧
 (¬ (4 : Int) ≤ j → Q (.bool false) e))))) ∧
 (¬ (g : Int) = 0 → ∃ n, ld1 e h.next 0 = some (.int .i64 n) ∧
 (((4 : Int) ≤ n → ∃ o, ld1 e h.next 0 = some (.int .i64 o) ∧
 (((o : Int) ≤ 1023 → ∃ p, ld1 e h.next 1 = some (.int .u64 p) ∧
 (((1 : Int) ≤ p → ∃ q, ld1 e h.next 1 = some (.int .u64 q) ∧
 (((q : Int) < 281474976710656 → Q (.bool true) e) ∧
 (¬ (q : Int) < 281474976710656 → Q (.bool false) e))) ∧
 (¬ (1 : Int) ≤ p → Q (.bool false) e))) ∧
 (¬ (o : Int) ≤ 1023 → Q (.bool false) e))) ∧
 (¬ (4 : Int) ≤ n → Q (.bool false) e))))) ∧
 (¬ (f : Int) = 0 → ∃ r, ld1 e h.next 0 = some (.int .i64 r) ∧
 (((4 : Int) ≤ r → ∃ s, ld1 e h.next 0 = some (.int .i64 s) ∧
 (((s : Int) ≤ 1023 → ∃ t, ld1 e h.next 1 = some (.int .u64 t) ∧
 (((1 : Int) ≤ t → ∃ u, ld1 e h.next 1 = some (.int .u64 u) ∧
 (((u : Int) < 281474976710656 → Q (.bool true) e) ∧
 (¬ (u : Int) < 281474976710656 → Q (.bool false) e))) ∧
 (¬ (1 : Int) ≤ t → Q (.bool false) e))) ∧
 (¬ (s : Int) ≤ 1023 → Q (.bool false) e))) ∧
 (¬ (4 : Int) ≤ r → Q (.bool false) e))))) :
 Wf Try.prog K 83 [.agg (qL a b d).toArray] h Q :=
  vcF_sound (hs := []) hk (Eq.mpr (by kernel_rfl) H)
theorem vc_aquiferref13_one {K : Xs} (hk : K 109 = none) (a : Int) (b : Int) (d : Int) (h : AH) (Q : Value → AH → Prop) (H :
 ∀ e, e = h.alloc (.cells (qL a b d) 25 false) →
 ∃ f g i, ldN e h.next 0 3 = some (qL f g i) ∧
 (Wf Try.prog K 113 [.agg (qL f g i).toArray] e fun j k =>
 (((j = (.bool true) ∧
 (Q (.bool false) k)) ∨ (j = (.bool false) ∧
 (∃ l m n, ldN k h.next 0 3 = some (qL l m n) ∧
 (Wf Try.prog K 83 [.agg (qL l m n).toArray] k fun o p =>
 (((o = (.bool true) ∧
 (Q (.bool true) p)) ∨ (o = (.bool false) ∧
 (Q (.bool false) p))))))))))) :
 Wf Try.prog K 109 [.agg (qL a b d).toArray] h Q :=
  vcF_sound (hs := []) hk (Eq.mpr (by kernel_rfl) H)
theorem vc_aquiferref05_Less {K : Xs} (hk : K 110 = none) (a : Int) (b : Int) (d : Int) (e : Int) (f : Int) (g : Int) (h : AH) (Q : Value → AH → Prop) (H :
 ∀ i, i = h.alloc (.cells (qL a b d) 25 false) →
 ∀ j, j = i.alloc (.cells (qL e f g) 25 false) →
 ∃ k, ld1 j h.next 1 = some (.int .u64 k) ∧
 (∃ l, ld1 j i.next 1 = some (.int .u64 l) ∧
 (((k : Int) = l → ∃ m, ld1 j h.next 0 = some (.int .i64 m) ∧
 (∃ n, ld1 j i.next 0 = some (.int .i64 n) ∧
 (((m : Int) = n → ∃ o, ld1 j h.next 2 = some (.int .u32 o) ∧
 (∃ p, ld1 j i.next 2 = some (.int .u32 p) ∧
 (((o : Int) < p → Q (.bool true) j) ∧
 (¬ (o : Int) < p → Q (.bool false) j)))) ∧
 (¬ (m : Int) = n → ∃ q, ld1 j h.next 0 = some (.int .i64 q) ∧
 (∃ r, ld1 j i.next 0 = some (.int .i64 r) ∧
 (((q : Int) < r → Q (.bool true) j) ∧
 (¬ (q : Int) < r → Q (.bool false) j))))))) ∧
 (¬ (k : Int) = l → ∃ s, ld1 j h.next 1 = some (.int .u64 s) ∧
 (∃ t, ld1 j i.next 1 = some (.int .u64 t) ∧
 (((s : Int) < t → Q (.bool true) j) ∧
 (¬ (s : Int) < t → Q (.bool false) j))))))) :
 Wf Try.prog K 110 [.agg (qL a b d).toArray, .agg (qL e f g).toArray] h Q :=
  vcF_sound (hs := []) hk (Eq.mpr (by kernel_rfl) H)
theorem vc_aquiferref11_Same {K : Xs} (hk : K 39 = none) (a : Option Addr) (b d : Nat) (e : Option Addr) (f g : Nat) (h : AH) (Q : Value → AH → Prop) (H :
 ((((b : Nat) : Int) : Int) = ((f : Nat) : Int) → ∃ i : Int → Nat → AH → Prop, (∃ n, i 0 n h) ∧
 ∀ (j : Nat) (k : AH) (l : Int), i l j k →
 ((l : Int) < ((b : Nat) : Int) → derefP a fun m o => (((0 : Int) ≤ l) ∧ ((l : Int) < ((b : Nat) : Int)) ∧
 (∃ p q r, ldN k m (o + Int.toNat l * 3) 3 = some (qL p q r) ∧
 (derefP e fun s t => (((0 : Int) ≤ l) ∧ ((l : Int) < ((f : Nat) : Int)) ∧
 (∃ u v w, ldN k s (t + Int.toNat l * 3) 3 = some (qL u v w) ∧
 (∃ la15 lb16, keyA Try.prog 25 (.agg (qL p q r).toArray) = some la15 ∧ keyA Try.prog 25 (.agg (qL u v w).toArray) = some lb16 ∧
 (litsEq la15 lb16 = true → ∀ x : Int, x = IntKind.wrap .i64 (l + 1) → ∃ y, y < j ∧ i x y k) ∧
 (litsEq la15 lb16 = false → Q (.bool false) k)))))))) ∧
 (¬ (l : Int) < ((b : Nat) : Int) → Q (.bool true) k)) ∧
 (¬ (((b : Nat) : Int) : Int) = ((f : Nat) : Int) → Q (.bool false) h)) :
 Wf Try.prog K 39 [.slice a b d, .slice e f g] h Q :=
  vcF_sound (hs := [(4, [(13, .int .i64 0)])]) hk (Eq.mpr (by kernel_rfl) H)
theorem vc_aquiferref10_Hole {K : Xs} (hk : K 113 = none) (a : Int) (b : Int) (d : Int) (h : AH) (Q : Value → AH → Prop) (H :
 ∀ e, e = h.alloc (.cells (qL a b d) 25 false) →
 ∃ f, ld1 e h.next 0 = some (.int .i64 f) ∧
 (((f : Int) = 0 → ∃ g, ld1 e h.next 1 = some (.int .u64 g) ∧
 (((g : Int) = 0 → ∃ i, ld1 e h.next 2 = some (.int .u32 i) ∧
 (((i : Int) = 0 → Q (.bool true) e) ∧
 (¬ (i : Int) = 0 → Q (.bool false) e))) ∧
 (¬ (g : Int) = 0 → Q (.bool false) e))) ∧
 (¬ (f : Int) = 0 → Q (.bool false) e))) :
 Wf Try.prog K 113 [.agg (qL a b d).toArray] h Q :=
  vcF_sound (hs := []) hk (Eq.mpr (by kernel_rfl) H)
end Go.Am
