/-
  WEAKEST CONDITIONS of some functions of this program, printed by a program.
-/
import Derived.Test.YtibgmhipepaeaaaVAbb
import Derived.Test.YtibgmhipepaeaaaRows
set_option linter.unusedVariables false
set_option maxRecDepth 100000
namespace Go.Am
open Go.Proofs
abbrev aquiferlaw17_do_t1 (K : Xs) (Q : Value → AH → Prop) (h21 : AH) (h9999 : AH) (h1 : AH) (h3 : AH) (h2 : AH) (h5 : AH) (i20 : Int) : Prop :=
  (∃ i22 p23 n24 c25, ldN h21 h9999.next 0 2 = some (bC i22 p23 n24 c25) ∧
 ((2 = 2) ∧ ∃ h26, stN h21 h1.next 0 (bC i22 p23 n24 c25) = some h26 ∧
 (∃ i27 s28 b29 i30 i31 i32 i33 i34 i35 i36 p37 n38 c39, ldN h26 h3.next 0 11 = some (sC i27 s28 b29 i30 i31 i32 i33 i34 i35 i36 p37 n38 c39) ∧
 ((11 = 11) ∧ ∃ h40, stN h26 h2.next 0 (sC i27 s28 b29 i30 i31 i32 i33 i34 i35 i36 p37 n38 c39) = some h40 ∧
 ((ldN h21 h3.next 0 11 = some (sC i27 s28 b29 i30 i31 i32 i33 i34 i35 i36 p37 n38 c39)) ∧
 ((ldN h26 h3.next 0 11 = some (sC i27 s28 b29 i30 i31 i32 i33 i34 i35 i36 p37 n38 c39)) ∧
 (∃ i41 p42 n43 c44, ldN h40 h1.next 0 2 = some (bC i41 p42 n43 c44) ∧
 (∃ i45 s46 b47 i48 i49 i50 i51 i52 i53 i54 p55 n56 c57, ldN h40 h2.next 0 11 = some (sC i45 s46 b47 i48 i49 i50 i51 i52 i53 i54 p55 n56 c57) ∧
 (Q (.tuple #[.agg (bC i41 p42 n43 c44).toArray, .agg (sC i45 s46 b47 i48 i49 i50 i51 i52 i53 i54 p55 n56 c57).toArray, (.slice (some ⟨h5.next, 0, none⟩) 0 0), .int .i64 i20]) h40)))))))))
abbrev aquiferlaw17_do_t2 (K : Xs) (Q : Value → AH → Prop) (h348 : AH) (h9999 : AH) (h1 : AH) (h3 : AH) (h2 : AH) (p344 : Option Addr) (n345 : Nat) (c346 : Nat) (i347 : Int) : Prop :=
  (∃ i349 p350 n351 c352, ldN h348 h9999.next 0 2 = some (bC i349 p350 n351 c352) ∧
 ((2 = 2) ∧ ∃ h353, stN h348 h1.next 0 (bC i349 p350 n351 c352) = some h353 ∧
 (∃ i354 s355 b356 i357 i358 i359 i360 i361 i362 i363 p364 n365 c366, ldN h353 h3.next 0 11 = some (sC i354 s355 b356 i357 i358 i359 i360 i361 i362 i363 p364 n365 c366) ∧
 ((11 = 11) ∧ ∃ h367, stN h353 h2.next 0 (sC i354 s355 b356 i357 i358 i359 i360 i361 i362 i363 p364 n365 c366) = some h367 ∧
 ((ldN h348 h3.next 0 11 = some (sC i354 s355 b356 i357 i358 i359 i360 i361 i362 i363 p364 n365 c366)) ∧
 ((ldN h353 h3.next 0 11 = some (sC i354 s355 b356 i357 i358 i359 i360 i361 i362 i363 p364 n365 c366)) ∧
 (∃ i368 p369 n370 c371, ldN h367 h1.next 0 2 = some (bC i368 p369 n370 c371) ∧
 (∃ i372 s373 b374 i375 i376 i377 i378 i379 i380 i381 p382 n383 c384, ldN h367 h2.next 0 11 = some (sC i372 s373 b374 i375 i376 i377 i378 i379 i380 i381 p382 n383 c384) ∧
 (Q (.tuple #[.agg (bC i368 p369 n370 c371).toArray, .agg (sC i372 s373 b374 i375 i376 i377 i378 i379 i380 i381 p382 n383 c384).toArray, .slice p344 n345 c346, .int .i64 i347]) h367)))))))))
abbrev aquiferlaw17_do_t3 (K : Xs) (Q : Value → AH → Prop) (r212 : Value) (h213 : AH) (h9999 : AH) (h3 : AH) (h1 : AH) (h2 : AH) (h5 : AH) : Prop :=
  (∃ i214 p215 n216 c217 i218 s219 b220 i221 i222 i223 i224 i225 i226 i227 p228 n229 c230 i231, r212 = (.tuple #[.agg (bC i214 p215 n216 c217).toArray, .agg (sC i218 s219 b220 i221 i222 i223 i224 i225 i226 i227 p228 n229 c230).toArray, .int .i64 i231]) ∧
 ((2 = 2) ∧ ∃ h232, stN h213 h9999.next 0 (bC i214 p215 n216 c217) = some h232 ∧
 ((11 = 11) ∧ ∃ h233, stN h232 h3.next 0 (sC i218 s219 b220 i221 i222 i223 i224 i225 i226 i227 p228 n229 c230) = some h233 ∧
 (aquiferlaw17_do_t1 K Q h233 h9999 h1 h3 h2 h5 i231))))
theorem vc_aquiferlaw17_do {K : Xs} (hk : K 36 = none) (a : Int) (b : Option Addr) (d e : Nat) (f : Int) (g : Int) (i : ByteArray) (j : ByteArray) (k : Int) (l : Option Addr) (m n : Nat) (o : AH) (Q : Value → AH → Prop) (H :
 ∀ p, p = o.alloc (.cells (bC a b d e) 36 false) →
 ∀ q, q = p.alloc (.cells [.int .i64 f, .int .i64 g, .string i, .string j, .int .u64 k, .slice l m n] 58 false) →
 ∀ r, r = q.alloc (.cells [.int .u64 0, .slice none 0 0] 36 false) →
 ∀ s, s = r.alloc (.cells (zC) 28 false) →
 ∀ t, t = s.alloc (.cells (zC) 28 false) →
 (11 = 11) ∧ ∃ u, stN t s.next 0 (zC) = some u ∧
 (∀ v, v = u.alloc (.cells [] 25 false) →
 ∃ w, ld1 v p.next 0 = some (.int .i64 w) ∧
 (((w : Int) = 0 → ∃ x y z aa, ldN v o.next 0 2 = some (bC x y z aa) ∧
 (∃ ab, ld1 v p.next 2 = some (.string ab) ∧
 (∃ ac, ld1 v p.next 1 = some (.int .i64 ac) ∧
 (Wf Try.prog K 14 [.agg (bC x y z aa).toArray, .string ab, .int .i64 ac] v fun ad ae =>
 (∃ af ag ah ai aj, ad = (.tuple #[.agg (bC af ag ah ai).toArray, .int .i64 aj]) ∧
 ((2 = 2) ∧ ∃ ak, stN ae o.next 0 (bC af ag ah ai) = some ak ∧
 (aquiferlaw17_do_t1 K Q ak o q s r u aj))))))) ∧
 (¬ (w : Int) = 0 → ((w : Int) = 1 → ∃ al am an ao, ldN v o.next 0 2 = some (bC al am an ao) ∧
 (∃ ap, ld1 v p.next 2 = some (.string ap) ∧
 (∃ aq, ld1 v p.next 4 = some (.int .u64 aq) ∧
 (Wf Try.prog K 52 [.agg (bC al am an ao).toArray, .string ap, .int .u64 aq] v fun ar au =>
 (∃ av aw ax ay az, ar = (.tuple #[.agg (bC av aw ax ay).toArray, .int .i64 az]) ∧
 ((2 = 2) ∧ ∃ a0, stN au o.next 0 (bC av aw ax ay) = some a0 ∧
 (aquiferlaw17_do_t1 K Q a0 o q s r u az))))))) ∧
 (¬ (w : Int) = 1 → ((w : Int) = 2 → ∃ a1 a2 a3 a4, ldN v o.next 0 2 = some (bC a1 a2 a3 a4) ∧
 (∃ a5, ld1 v p.next 2 = some (.string a5) ∧
 (∃ a6, ld1 v p.next 3 = some (.string a6) ∧
 (Wf Try.prog K 60 [.agg (bC a1 a2 a3 a4).toArray, .string a5, .string a6] v fun a7 a8 =>
 (∃ a9 ba bb bc bd, a7 = (.tuple #[.agg (bC a9 ba bb bc).toArray, .int .i64 bd]) ∧
 ((2 = 2) ∧ ∃ be, stN a8 o.next 0 (bC a9 ba bb bc) = some be ∧
 (aquiferlaw17_do_t1 K Q be o q s r u bd))))))) ∧
 (¬ (w : Int) = 2 → ((w : Int) = 3 → ∃ bf bg bh bi, ldN v o.next 0 2 = some (bC bf bg bh bi) ∧
 (∃ bj, ld1 v p.next 2 = some (.string bj) ∧
 (Wf Try.prog K 61 [.agg (bC bf bg bh bi).toArray, .string bj] v fun bk bl =>
 (∃ bm bn bo bp bq, bk = (.tuple #[.agg (bC bm bn bo bp).toArray, .int .i64 bq]) ∧
 ((2 = 2) ∧ ∃ br, stN bl o.next 0 (bC bm bn bo bp) = some br ∧
 (aquiferlaw17_do_t1 K Q br o q s r u bq)))))) ∧
 (¬ (w : Int) = 3 → ((w : Int) = 4 → ∃ bs bt bu bv, ldN v o.next 0 2 = some (bC bs bt bu bv) ∧
 (∃ bw, ld1 v p.next 2 = some (.string bw) ∧
 (Wf Try.prog K 62 [.agg (bC bs bt bu bv).toArray, .string bw] v fun bx bz =>
 (aquiferlaw17_do_t3 K Q bx bz o s q r u)))) ∧
 (¬ (w : Int) = 4 → ((w : Int) = 5 → ∃ b0 b1 b2 b3, ldN v o.next 0 2 = some (bC b0 b1 b2 b3) ∧
 (∃ b4, ld1 v p.next 2 = some (.string b4) ∧
 (Wf Try.prog K 63 [.agg (bC b0 b1 b2 b3).toArray, .string b4] v fun b5 b6 =>
 (aquiferlaw17_do_t3 K Q b5 b6 o s q r u)))) ∧
 (¬ (w : Int) = 5 → ((w : Int) = 6 → ∃ b7 b8 b9 da, ldN v o.next 0 2 = some (bC b7 b8 b9 da) ∧
 (∃ db, ld1 v p.next 2 = some (.string db) ∧
 (Wf Try.prog K 64 [.agg (bC b7 b8 b9 da).toArray, .string db] v fun dc dd =>
 (∃ de df dg dh di dj dk dl, dc = (.tuple #[.agg (bC de df dg dh).toArray, .slice di dj dk, .int .i64 dl]) ∧
 ((2 = 2) ∧ ∃ dm, stN dd o.next 0 (bC de df dg dh) = some dm ∧
 (aquiferlaw17_do_t2 K Q dm o q s r di dj dk dl)))))) ∧
 (¬ (w : Int) = 6 → ((w : Int) = 7 → ∀ dn, dn = v.alloc (.cells [] 25 false) →
 ∃ dp dq dr, ld1 dn p.next 5 = some (.slice dp dq dr) ∧
 (∃ ds dt du dv, aBuiltin Try.prog dn .append #[26, 26] [(.slice (some ⟨v.next, 0, none⟩) 0 0), .slice dp dq dr] = some (.slice ds dt du, dv) ∧
 (∃ dw dx dy dz, ldN dv o.next 0 2 = some (bC dw dx dy dz) ∧
 (∃ d0, ld1 dv p.next 4 = some (.int .u64 d0) ∧
 (Wf Try.prog K 53 [.agg (bC dw dx dy dz).toArray, .int .u64 d0, .slice ds dt du] dv fun d1 d2 =>
 (∃ d3 d4 d5 d6 d7 d8 d9 ea, d1 = (.tuple #[.agg (bC d3 d4 d5 d6).toArray, .slice d7 d8 d9, .int .i64 ea]) ∧
 ((2 = 2) ∧ ∃ eb, stN d2 o.next 0 (bC d3 d4 d5 d6) = some eb ∧
 ((ldN dn o.next 0 2 = some (bC dw dx dy dz)) ∧
 ((ldN dv o.next 0 2 = some (bC dw dx dy dz)) ∧
 ((ld1 dn p.next 4 = some (.int .u64 d0)) ∧
 ((ld1 dv p.next 4 = some (.int .u64 d0)) ∧
 (aquiferlaw17_do_t2 K Q eb o q s r d7 d8 d9 ea)))))))))))) ∧
 (¬ (w : Int) = 7 → ∃ ec ed ee ef, ldN v o.next 0 2 = some (bC ec ed ee ef) ∧
 ((2 = 2) ∧ ∃ eg, stN v q.next 0 (bC ec ed ee ef) = some eg ∧
 (∃ eh ei ej ek el em en eo ep eq er es et, ldN eg s.next 0 11 = some (sC eh ei ej ek el em en eo ep eq er es et) ∧
 ((11 = 11) ∧ ∃ eu, stN eg r.next 0 (sC eh ei ej ek el em en eo ep eq er es et) = some eu ∧
 ((ldN v s.next 0 11 = some (sC eh ei ej ek el em en eo ep eq er es et)) ∧
 ((ldN eg s.next 0 11 = some (sC eh ei ej ek el em en eo ep eq er es et)) ∧
 (∃ ev ew ex ey, ldN eu q.next 0 2 = some (bC ev ew ex ey) ∧
 (∃ ez e0 e1 e2 e3 e4 e5 e6 e7 e8 e9 fa fb, ldN eu r.next 0 11 = some (sC ez e0 e1 e2 e3 e4 e5 e6 e7 e8 e9 fa fb) ∧
 (Q (.tuple #[.agg (bC ev ew ex ey).toArray, .agg (sC ez e0 e1 e2 e3 e4 e5 e6 e7 e8 e9 fa fb).toArray, (.slice (some ⟨u.next, 0, none⟩) 0 0), .int .i64 0]) eu))))))))))))))))))) :
 Wf Try.prog K 36 [.agg (bC a b d e).toArray, .agg #[.int .i64 f, .int .i64 g, .string i, .string j, .int .u64 k, .slice l m n]] o Q :=
  vcF_sound (hs := []) hk (Eq.mpr (by kernel_rfl) H)
abbrev aquiferlaw17_want_t1 (K : Xs) (Q : Value → AH → Prop) (ak : AH) (o : AH) (q : AH) (s : AH) (r : AH) (u : AH) (aj : Int) : Prop :=
  (∃ fc fd fe ff, ldN ak o.next 0 2 = some (bC fc fd fe ff) ∧
 ((2 = 2) ∧ ∃ fg, stN ak q.next 0 (bC fc fd fe ff) = some fg ∧
 (∃ fh fi fj fk fl fm fn fo fp fq fr fs ft, ldN fg s.next 0 11 = some (sC fh fi fj fk fl fm fn fo fp fq fr fs ft) ∧
 ((11 = 11) ∧ ∃ fu, stN fg r.next 0 (sC fh fi fj fk fl fm fn fo fp fq fr fs ft) = some fu ∧
 ((ldN ak s.next 0 11 = some (sC fh fi fj fk fl fm fn fo fp fq fr fs ft)) ∧
 ((ldN fg s.next 0 11 = some (sC fh fi fj fk fl fm fn fo fp fq fr fs ft)) ∧
 (∃ fv fw fx fy, ldN fu q.next 0 2 = some (bC fv fw fx fy) ∧
 (∃ fz f0 f1 f2 f3 f4 f5 f6 f7 f8 f9 ga gb, ldN fu r.next 0 11 = some (sC fz f0 f1 f2 f3 f4 f5 f6 f7 f8 f9 ga gb) ∧
 (Q (.tuple #[.agg (bC fv fw fx fy).toArray, .agg (sC fz f0 f1 f2 f3 f4 f5 f6 f7 f8 f9 ga gb).toArray, (.slice (some ⟨u.next, 0, none⟩) 0 0), .int .i64 aj]) fu)))))))))
abbrev aquiferlaw17_want_t2 (K : Xs) (Q : Value → AH → Prop) (dc : Value) (dd : AH) (o : AH) (q : AH) (s : AH) (r : AH) : Prop :=
  (∃ de df dg dh di dj dk dl, dc = (.tuple #[.agg (bC de df dg dh).toArray, .slice di dj dk, .int .i64 dl]) ∧
 ((2 = 2) ∧ ∃ dm, stN dd o.next 0 (bC de df dg dh) = some dm ∧
 (∃ gc gd ge gf, ldN dm o.next 0 2 = some (bC gc gd ge gf) ∧
 ((2 = 2) ∧ ∃ gg, stN dm q.next 0 (bC gc gd ge gf) = some gg ∧
 (∃ gh gi gj gk gl gm gn gp gq gr gs gt gu, ldN gg s.next 0 11 = some (sC gh gi gj gk gl gm gn gp gq gr gs gt gu) ∧
 ((11 = 11) ∧ ∃ gv, stN gg r.next 0 (sC gh gi gj gk gl gm gn gp gq gr gs gt gu) = some gv ∧
 ((ldN dm s.next 0 11 = some (sC gh gi gj gk gl gm gn gp gq gr gs gt gu)) ∧
 ((ldN gg s.next 0 11 = some (sC gh gi gj gk gl gm gn gp gq gr gs gt gu)) ∧
 (∃ gw gx gy gz, ldN gv q.next 0 2 = some (bC gw gx gy gz) ∧
 (∃ g0 g1 g2 g3 g4 g5 g6 g7 g8 g9 ia ib ic, ldN gv r.next 0 11 = some (sC g0 g1 g2 g3 g4 g5 g6 g7 g8 g9 ia ib ic) ∧
 (Q (.tuple #[.agg (bC gw gx gy gz).toArray, .agg (sC g0 g1 g2 g3 g4 g5 g6 g7 g8 g9 ia ib ic).toArray, .slice di dj dk, .int .i64 dl]) gv)))))))))))
abbrev aquiferlaw17_want_t3 (K : Xs) (Q : Value → AH → Prop) (bx : Value) (bz : AH) (o : AH) (s : AH) (q : AH) (r : AH) (u : AH) : Prop :=
  (∃ id ie ig ih ii ij ik il im io ip iq ir it iu iv iw ix, bx = (.tuple #[.agg (bC id ie ig ih).toArray, .agg (sC ii ij ik il im io ip iq ir it iu iv iw).toArray, .int .i64 ix]) ∧
 ((2 = 2) ∧ ∃ iy, stN bz o.next 0 (bC id ie ig ih) = some iy ∧
 ((11 = 11) ∧ ∃ iz, stN iy s.next 0 (sC ii ij ik il im io ip iq ir it iu iv iw) = some iz ∧
 (aquiferlaw17_want_t1 K Q iz o q s r u ix))))
theorem vc_aquiferlaw17_want {K : Xs} (hk : K 37 = none) (a : Int) (b : Option Addr) (d e : Nat) (f : Int) (g : Int) (i : ByteArray) (j : ByteArray) (k : Int) (l : Option Addr) (m n : Nat) (o : AH) (Q : Value → AH → Prop) (H :
 ∀ p, p = o.alloc (.cells (bC a b d e) 36 false) →
 ∀ q, q = p.alloc (.cells [.int .i64 f, .int .i64 g, .string i, .string j, .int .u64 k, .slice l m n] 58 false) →
 ∀ r, r = q.alloc (.cells [.int .u64 0, .slice none 0 0] 36 false) →
 ∀ s, s = r.alloc (.cells (zC) 28 false) →
 ∀ t, t = s.alloc (.cells (zC) 28 false) →
 (11 = 11) ∧ ∃ u, stN t s.next 0 (zC) = some u ∧
 (∀ v, v = u.alloc (.cells [] 25 false) →
 ∃ w, ld1 v p.next 0 = some (.int .i64 w) ∧
 (((w : Int) = 0 → ∃ x y z aa, ldN v o.next 0 2 = some (bC x y z aa) ∧
 (∃ ab, ld1 v p.next 2 = some (.string ab) ∧
 (∃ ac, ld1 v p.next 1 = some (.int .i64 ac) ∧
 (Wf Try.prog K 65 [.agg (bC x y z aa).toArray, .string ab, .int .i64 ac] v fun ad ae =>
 (∃ af ag ah ai aj, ad = (.tuple #[.agg (bC af ag ah ai).toArray, .int .i64 aj]) ∧
 ((2 = 2) ∧ ∃ ak, stN ae o.next 0 (bC af ag ah ai) = some ak ∧
 (aquiferlaw17_want_t1 K Q ak o q s r u aj))))))) ∧
 (¬ (w : Int) = 0 → ((w : Int) = 1 → ∃ al am an ao, ldN v o.next 0 2 = some (bC al am an ao) ∧
 (∃ ap, ld1 v p.next 2 = some (.string ap) ∧
 (∃ aq, ld1 v p.next 4 = some (.int .u64 aq) ∧
 (Wf Try.prog K 66 [.agg (bC al am an ao).toArray, .string ap, .int .u64 aq] v fun ar au =>
 (∃ av aw ax ay az, ar = (.tuple #[.agg (bC av aw ax ay).toArray, .int .i64 az]) ∧
 ((2 = 2) ∧ ∃ a0, stN au o.next 0 (bC av aw ax ay) = some a0 ∧
 (aquiferlaw17_want_t1 K Q a0 o q s r u az))))))) ∧
 (¬ (w : Int) = 1 → ((w : Int) = 2 → ∃ a1 a2 a3 a4, ldN v o.next 0 2 = some (bC a1 a2 a3 a4) ∧
 (∃ a5, ld1 v p.next 2 = some (.string a5) ∧
 (∃ a6, ld1 v p.next 3 = some (.string a6) ∧
 (Wf Try.prog K 67 [.agg (bC a1 a2 a3 a4).toArray, .string a5, .string a6] v fun a7 a8 =>
 (∃ a9 ba bb bc bd, a7 = (.tuple #[.agg (bC a9 ba bb bc).toArray, .int .i64 bd]) ∧
 ((2 = 2) ∧ ∃ be, stN a8 o.next 0 (bC a9 ba bb bc) = some be ∧
 (aquiferlaw17_want_t1 K Q be o q s r u bd))))))) ∧
 (¬ (w : Int) = 2 → ((w : Int) = 3 → ∃ bf bg bh bi, ldN v o.next 0 2 = some (bC bf bg bh bi) ∧
 (∃ bj, ld1 v p.next 2 = some (.string bj) ∧
 (Wf Try.prog K 68 [.agg (bC bf bg bh bi).toArray, .string bj] v fun bk bl =>
 (∃ bm bn bo bp bq, bk = (.tuple #[.agg (bC bm bn bo bp).toArray, .int .i64 bq]) ∧
 ((2 = 2) ∧ ∃ br, stN bl o.next 0 (bC bm bn bo bp) = some br ∧
 (aquiferlaw17_want_t1 K Q br o q s r u bq)))))) ∧
 (¬ (w : Int) = 3 → ((w : Int) = 4 → ∃ bs bt bu bv, ldN v o.next 0 2 = some (bC bs bt bu bv) ∧
 (∃ bw, ld1 v p.next 2 = some (.string bw) ∧
 (Wf Try.prog K 69 [.agg (bC bs bt bu bv).toArray, .string bw] v fun bx bz =>
 (aquiferlaw17_want_t3 K Q bx bz o s q r u)))) ∧
 (¬ (w : Int) = 4 → ((w : Int) = 5 → ∃ b0 b1 b2 b3, ldN v o.next 0 2 = some (bC b0 b1 b2 b3) ∧
 (∃ b4, ld1 v p.next 2 = some (.string b4) ∧
 (Wf Try.prog K 70 [.agg (bC b0 b1 b2 b3).toArray, .string b4] v fun b5 b6 =>
 (aquiferlaw17_want_t3 K Q b5 b6 o s q r u)))) ∧
 (¬ (w : Int) = 5 → ((w : Int) = 6 → ∃ b7 b8 b9 da, ldN v o.next 0 2 = some (bC b7 b8 b9 da) ∧
 (∃ db, ld1 v p.next 2 = some (.string db) ∧
 (Wf Try.prog K 71 [.agg (bC b7 b8 b9 da).toArray, .string db] v fun dc dd =>
 (aquiferlaw17_want_t2 K Q dc dd o q s r)))) ∧
 (¬ (w : Int) = 6 → ((w : Int) = 7 → ∃ de df dg dh, ldN v o.next 0 2 = some (bC de df dg dh) ∧
 (∃ di, ld1 v p.next 4 = some (.int .u64 di) ∧
 (∃ dj dk dl, ld1 v p.next 5 = some (.slice dj dk dl) ∧
 (Wf Try.prog K 72 [.agg (bC de df dg dh).toArray, .int .u64 di, .slice dj dk dl] v fun dm dn =>
 (aquiferlaw17_want_t2 K Q dm dn o q s r))))) ∧
 (¬ (w : Int) = 7 → ∃ dp dq dr ds, ldN v o.next 0 2 = some (bC dp dq dr ds) ∧
 ((2 = 2) ∧ ∃ dt, stN v q.next 0 (bC dp dq dr ds) = some dt ∧
 (∃ du dv dw dx dy dz d0 d1 d2 d3 d4 d5 d6, ldN dt s.next 0 11 = some (sC du dv dw dx dy dz d0 d1 d2 d3 d4 d5 d6) ∧
 ((11 = 11) ∧ ∃ d7, stN dt r.next 0 (sC du dv dw dx dy dz d0 d1 d2 d3 d4 d5 d6) = some d7 ∧
 ((ldN v s.next 0 11 = some (sC du dv dw dx dy dz d0 d1 d2 d3 d4 d5 d6)) ∧
 ((ldN dt s.next 0 11 = some (sC du dv dw dx dy dz d0 d1 d2 d3 d4 d5 d6)) ∧
 (∃ d8 d9 ea eb, ldN d7 q.next 0 2 = some (bC d8 d9 ea eb) ∧
 (∃ ec ed ee ef eg eh ei ej ek el em en eo, ldN d7 r.next 0 11 = some (sC ec ed ee ef eg eh ei ej ek el em en eo) ∧
 (Q (.tuple #[.agg (bC d8 d9 ea eb).toArray, .agg (sC ec ed ee ef eg eh ei ej ek el em en eo).toArray, (.slice (some ⟨u.next, 0, none⟩) 0 0), .int .i64 0]) d7))))))))))))))))))) :
 Wf Try.prog K 37 [.agg (bC a b d e).toArray, .agg #[.int .i64 f, .int .i64 g, .string i, .string j, .int .u64 k, .slice l m n]] o Q :=
  vcF_sound (hs := []) hk (Eq.mpr (by kernel_rfl) H)
theorem vc_aquiferlaw17_RuleDoes {K : Xs} (hk : K 9 = none) (a : Int) (b : Option Addr) (d e : Nat) (f : Int) (g : Int) (i : ByteArray) (j : ByteArray) (k : Int) (l : Option Addr) (m n : Nat) (o : AH) (Q : Value → AH → Prop) (H :
 ∀ p, p = o.alloc (.cells (bC a b d e) 36 false) →
 ∀ q, q = p.alloc (.cells [.int .i64 f, .int .i64 g, .string i, .string j, .int .u64 k, .slice l m n] 58 false) →
 Wf Try.prog K 15 [] q fun r s =>
 (((r = (.bool true) ∧
 (∃ t u v, ld1 s o.next 1 = some (.slice t u v) ∧
 (((40 : Int) < ((u : Nat) : Int) → Q (.bool true) s) ∧
 (¬ (40 : Int) < ((u : Nat) : Int) → ∃ w x y, ld1 s p.next 5 = some (.slice w x y) ∧
 (((100 : Int) < ((x : Nat) : Int) → Q (.bool true) s) ∧
 (¬ (100 : Int) < ((x : Nat) : Int) → ∃ z, ld1 s o.next 0 = some (.int .u64 z) ∧
 (((z : Int) < 1 → Q (.bool true) s) ∧
 (¬ (z : Int) < 1 → ∃ aa, ld1 s o.next 0 = some (.int .u64 aa) ∧
 (((281474976710655 : Int) ≤ aa → Q (.bool true) s) ∧
 (¬ (281474976710655 : Int) ≤ aa → ∃ ab, ld1 s o.next 0 = some (.int .u64 ab) ∧
 (∃ ac ad ae, ld1 s o.next 1 = some (.slice ac ad ae) ∧
 (Wf Try.prog K 23 (bC ab ac ad ae) s fun af ag =>
 (((af = (.bool true) ∧
 (∃ ah ai aj ak, ldN ag o.next 0 2 = some (bC ah ai aj ak) ∧
 (Wf Try.prog K 35 [.agg (bC ah ai aj ak).toArray] ag fun al am =>
 (∃ an ao ap aq, al = (.agg (bC an ao ap aq).toArray) ∧
 (∀ ar, ar = am.alloc (.cells [.int .u64 0, .slice none 0 0] 36 false) →
 (2 = 2) ∧ ∃ au, stN ar am.next 0 (bC an ao ap aq) = some au ∧
 (∃ av aw ax ay, ldN au am.next 0 2 = some (bC av aw ax ay) ∧
 (∃ az a0 a1 a2 a3 a4 a5 a6, ldN au p.next 0 6 = some [.int .i64 az, .int .i64 a0, .string a1, .string a2, .int .u64 a3, .slice a4 a5 a6] ∧
 (Wf Try.prog K 36 [.agg (bC av aw ax ay).toArray, .agg #[.int .i64 az, .int .i64 a0, .string a1, .string a2, .int .u64 a3, .slice a4 a5 a6]] au fun a7 a8 =>
 (∃ a9 ba bb bc bd be bf bg bh bi bj bk bl bm bn bo bp bq br bs bt, a7 = (.tuple #[.agg (bC a9 ba bb bc).toArray, .agg (sC bd be bf bg bh bi bj bk bl bm bn bo bp).toArray, .slice bq br bs, .int .i64 bt]) ∧
 (∀ bu, bu = a8.alloc (.cells [.int .u64 0, .slice none 0 0] 36 false) →
 ∀ bv, bv = bu.alloc (.cells (zC) 28 false) →
 (2 = 2) ∧ ∃ bw, stN bv a8.next 0 (bC a9 ba bb bc) = some bw ∧
 ((11 = 11) ∧ ∃ bx, stN bw bu.next 0 (sC bd be bf bg bh bi bj bk bl bm bn bo bp) = some bx ∧
 (∃ bz b0 b1 b2, ldN bx o.next 0 2 = some (bC bz b0 b1 b2) ∧
 (∃ b3 b4 b5 b6 b7 b8 b9 da, ldN bx p.next 0 6 = some [.int .i64 b3, .int .i64 b4, .string b5, .string b6, .int .u64 b7, .slice b8 b9 da] ∧
 (Wf Try.prog K 37 [.agg (bC bz b0 b1 b2).toArray, .agg #[.int .i64 b3, .int .i64 b4, .string b5, .string b6, .int .u64 b7, .slice b8 b9 da]] bx fun db dc =>
 (∃ dd de df dg dh di dj dk dl dm dn dp dq dr ds dt du dv dw dx dy, db = (.tuple #[.agg (bC dd de df dg).toArray, .agg (sC dh di dj dk dl dm dn dp dq dr ds dt du).toArray, .slice dv dw dx, .int .i64 dy]) ∧
 (∀ dz, dz = dc.alloc (.cells [.int .u64 0, .slice none 0 0] 36 false) →
 ∀ d0, d0 = dz.alloc (.cells (zC) 28 false) →
 (2 = 2) ∧ ∃ d1, stN d0 dc.next 0 (bC dd de df dg) = some d1 ∧
 ((11 = 11) ∧ ∃ d2, stN d1 dz.next 0 (sC dh di dj dk dl dm dn dp dq dr ds dt du) = some d2 ∧
 (∃ d3 d4 d5 d6, ldN d2 a8.next 0 2 = some (bC d3 d4 d5 d6) ∧
 (∃ d7 d8 d9 ea, ldN d2 dc.next 0 2 = some (bC d7 d8 d9 ea) ∧
 (Wf Try.prog K 38 [.agg (bC d3 d4 d5 d6).toArray, .agg (bC d7 d8 d9 ea).toArray] d2 fun eb ec =>
 (((eb = (.bool true) ∧
 (∃ ed ee ef eg eh ei ej ek el em en eo ep, ldN ec bu.next 0 11 = some (sC ed ee ef eg eh ei ej ek el em en eo ep) ∧
 (∃ eq er es et eu ev ew ex ey ez e0 e1 e2, ldN ec dz.next 0 11 = some (sC eq er es et eu ev ew ex ey ez e0 e1 e2) ∧
 (Wf Try.prog K 27 [.agg (sC ed ee ef eg eh ei ej ek el em en eo ep).toArray, .agg (sC eq er es et eu ev ew ex ey ez e0 e1 e2).toArray] ec fun e3 e4 =>
 (((e3 = (.bool true) ∧
 (Wf Try.prog K 39 [.slice bq br bs, .slice dv dw dx] e4 fun e5 e6 =>
 (((e5 = (.bool true) ∧
 (((bt : Int) = dy → ∃ e7 e8 e9 fa, ldN e6 am.next 0 2 = some (bC e7 e8 e9 fa) ∧
 (∃ fb fc fd fe, ldN e6 o.next 0 2 = some (bC fb fc fd fe) ∧
 (Wf Try.prog K 38 [.agg (bC e7 e8 e9 fa).toArray, .agg (bC fb fc fd fe).toArray] e6 fun ff fg =>
 (((ff = (.bool true) ∧
 (∃ fh, ld1 fg a8.next 0 = some (.int .u64 fh) ∧
 (∃ fi fj fk, ld1 fg a8.next 1 = some (.slice fi fj fk) ∧
 (Wf Try.prog K 23 (bC fh fi fj fk) fg fun fl fm =>
 (((fl = (.bool true) ∧
 (Q (.bool true) fm)) ∨ (fl = (.bool false) ∧
 (Q (.bool false) fm)))))))) ∨ (ff = (.bool false) ∧
 (Q (.bool false) fg))))))) ∧
 (¬ (bt : Int) = dy → Q (.bool false) e6))) ∨ (e5 = (.bool false) ∧
 (Q (.bool false) e6)))))) ∨ (e3 = (.bool false) ∧
 (Q (.bool false) e4)))))))) ∨ (eb = (.bool false) ∧
 (Q (.bool false) ec)))))))))))))))))))))))) ∨ (af = (.bool false) ∧
 (Q (.bool true) ag)))))))))))))))) ∨ (r = (.bool false) ∧
 (Q (.bool false) s))))) :
 Wf Try.prog K 9 [.agg (bC a b d e).toArray, .agg #[.int .i64 f, .int .i64 g, .string i, .string j, .int .u64 k, .slice l m n]] o Q :=
  vcF_sound (hs := []) hk (Eq.mpr (by kernel_rfl) H)
end Go.Am
