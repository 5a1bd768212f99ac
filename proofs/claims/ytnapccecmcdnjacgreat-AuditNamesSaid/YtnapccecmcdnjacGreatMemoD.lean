/-
  DATA of the calls that are remembered, by a program: blocks as trees, what each call needs and leaves.
-/
import Derived.Test.YtnapccecmcdnjacGreatAmE
set_option linter.unusedVariables false
set_option maxRecDepth 100000
namespace Go.Am.Dat
def B (n : Nat) : Value := .int .u8 (.ofNat n)
def I (n : Nat) : Value := .int .i64 (.ofNat n)
def U (n : Nat) : Value := .int .u64 (.ofNat n)
def W (n : Nat) : Value := .int .u32 (.ofNat n)
def N (v : Value) (l r : Tr Value) : Tr Value := .node (some v) l r
def L (v : Value) : Tr Value := .node (some v) .nil .nil
def t0 : Tr Value := (L (B 0))
def t3 : Tr Value := N (B 0) t0 t0
def t4 : Tr Value := N (B 0) (N (B 0) (N (B 0) t0 .nil) t0) t3
def t5 : Tr Value := N (B 0) t3 t3
def t6 : Tr Value := N (B 0) t4 t5
def t7 : Tr Value := N (B 0) t5 t5
def t9 : Tr Value := N (B 0) t7 t7
def t11 : Tr Value := N (B 0) t9 t9
def t13 : Tr Value := N (B 0) t11 t11
def t15 : Tr Value := N (B 0) t13 t13
def t17 : Tr Value := N (B 0) t15 t15
def t19 : Tr Value := N (B 0) t17 t17
def t21 : Tr Value := N (B 0) t19 t19
def t26 : Tr Value := (L (.bool false))
def t29 : Tr Value := N (.slice none 0 0) (L (.int .i64 (.negSucc 0))) .nil
def t40 : Tr Value := N (B 1) (N (B 0) (N (B 0) (N (B 0) (N (B 0) (L (I 0)) .nil) t0) t3) t5) t7
def t41 : Tr Value := N (B 1) (N (B 1) (N (B 1) t4 t5) t7) t40
def t42 : Tr Value := N (B 1) t7 t7
def t43 : Tr Value := N (B 1) t40 t42
def t45 : Tr Value := N (B 1) t43 t43
def t47 : Tr Value := N (B 1) t45 t45
def t65 : Tr Value := N (B 8) t5 t5
def t103 : Tr Value := N (B 5) t5 t5
def t131 : Tr Value := N (B 1) t5 t5
def t153 : Tr Value := N (B 1) t3 t3
def t163 : Tr Value := N (B 0) t7 t131
def t234 : Tr Value := N (B 2) t45 t45
def t247 : Tr Value := (L (U 1))
def o0 : FObj := .cells (N (B 0) (N (B 0) (N (B 0) (N (B 0) (N (B 0) (N (B 0) (N (B 0) (N (B 0) (N (B 0) t6 t7) t9) t11) t13) t15) t17) t19) t21) (N (B 0) t21 t21)) 8192 111 false
def o1 : FObj := .cells (N (.slice (some ⟨0, 0, none⟩) 64 64) (N (.slice (some ⟨1, 0, none⟩) 64 64) (L (I 0)) t26) t29) 6 65 false
def o2 : FObj := .cells (N (.slice (some ⟨0, 0, none⟩) 64 64) (N (.slice (some ⟨1, 0, none⟩) 64 64) (L (I 4)) t26) t29) 6 65 false
def o3 : FObj := .cells (N (B 0) (N (B 0) (N (B 0) (N (B 1) t41 t43) t45) t47) (N (B 0) (N (B 1) (N (B 1) (N (B 1) (N (B 1) (N (B 0) (N (B 0) (N (B 0) (N (B 0) (L (I 60)) .nil) t0) t3) t5) t7) t42) t43) t45) t47)) 1040 80 false
def o4 : FObj := .cells (N (.slice (some ⟨115, 0, none⟩) 64 64) (N (.slice (some ⟨116, 0, none⟩) 64 64) (L (I 0)) t26) t29) 6 65 false
def o5 : FObj := .cells (N (B 0) (N (B 0) (N (B 0) (N (B 0) (N (B 0) (N (B 0) (N (B 0) (N (B 0) (N (B 26) t6 t7) t9) t11) (N (B 0) (N (B 0) t9 (N (B 0) t7 t65)) t11)) (N (B 0) (N (B 0) (N (B 0) (N (B 0) (N (B 0) (N (B 22) t3 t3) t5) t7) (N (B 0) t7 (N (B 190) t5 t5))) t11) t13)) t17) (N (B 0) (N (B 0) (N (B 0) (N (B 0) (N (B 82) t9 (N (B 0) (N (B 4) t5 t5) t7)) t11) (N (B 0) (N (B 14) (N (B 0) (N (B 0) (N (B 61) t3 t3) t5) t7) t9) t11)) t15) t17)) (N (B 0) (N (B 0) (N (B 0) (N (B 0) (N (B 0) (N (B 81) t9 t9) t11) (N (B 0) (N (B 100) (N (B 0) (N (B 0) (N (B 193) t3 t3) t5) t7) t9) t11)) t15) t17) (N (B 0) (N (B 0) (N (B 0) (N (B 0) (N (B 0) t9 (N (B 0) t103 t7)) t11) t13) t15) (N (B 0) (N (B 0) (N (B 0) (N (B 0) (N (B 0) (N (B 0) (N (B 156) t3 t3) t5) t7) (N (B 0) t7 (N (B 230) t5 t5))) t11) t13) (N (B 0) (N (B 0) (N (B 0) t9 (N (B 0) t7 (N (B 100) t5 t5))) t11) (N (B 0) t11 (N (B 206) t9 t9))))))) (N (B 0) (N (B 0) (N (B 0) (N (B 0) (N (B 0) (N (B 0) (N (B 65) (N (B 0) (N (B 1) (N (B 4) t3 t3) t5) t7) (N (B 0) t131 t103)) t11) (N (B 0) (N (B 16) (N (B 0) (N (B 0) (N (B 170) t3 t3) t5) t7) t9) t11)) (N (B 0) (N (B 0) (N (B 0) (N (B 0) (N (B 0) (N (B 12) t3 t3) t5) t7) (N (B 0) t7 (N (B 6) t5 t5))) t11) t13)) (N (B 0) (N (B 0) t13 (N (B 0) (N (B 64) t9 t9) t11)) (N (B 0) (N (B 0) (N (B 1) (N (B 0) (N (B 0) t153 t5) t7) t9) t11) t13))) (N (B 0) (N (B 0) (N (B 0) (N (B 0) (N (B 1) (N (B 0) (N (B 1) t153 t5) t7) t163) t11) (N (B 0) (N (B 40) (N (B 0) (N (B 0) (N (B 162) t3 t3) t5) t7) t9) t11)) (N (B 0) (N (B 0) (N (B 8) (N (B 0) (N (B 0) (N (B 7) t3 t3) t5) t7) t163) t11) t13)) (N (B 0) (N (B 0) (N (B 0) (N (B 1) (N (B 0) (N (B 0) (N (B 82) t3 t3) t5) t7) (N (B 0) t7 (N (B 33) t5 t5))) t11) t13) (N (B 0) (N (B 0) (N (B 0) t9 (N (B 0) t7 (N (B 219) t5 t5))) t11) (N (B 0) t11 (N (B 10) t9 t9)))))) (N (B 0) (N (B 0) (N (B 0) (N (B 0) (N (B 0) (N (B 70) (N (B 0) t65 t7) (N (B 0) t131 t7)) t11) (N (B 0) (N (B 111) (N (B 0) (N (B 0) (N (B 211) t3 t3) t5) t7) t9) t11)) t15) t17) (N (B 0) t17 (N (B 0) (N (B 0) (N (B 0) (N (B 0) (N (B 0) (N (B 0) (N (B 214) t3 t3) t5) t7) (N (B 0) t7 (N (B 102) t5 t5))) t11) t13) (N (B 0) (N (B 0) (N (B 0) t9 (N (B 0) t7 (N (B 39) t5 t5))) t11) (N (B 0) t11 (N (B 73) t9 t9)))))))) 8192 111 false
def o6 : FObj := .cells (N (.slice (some ⟨115, 0, none⟩) 64 64) (N (.slice (some ⟨116, 0, none⟩) 64 64) (L (I 12)) t26) t29) 6 65 false
def o7 : FObj := .cells (N (B 0) (N (B 0) (N (B 0) (N (B 2) t41 t43) t45) t234) (N (B 0) (N (B 2) (N (B 2) (N (B 1) (N (B 1) (N (B 0) (N (B 0) (N (B 0) (N (B 0) (L (I 55)) .nil) t0) t3) t5) t7) t42) t43) t45) t234)) 1040 80 false
def o8 : FObj := .cells (N (.pointer (some ⟨117, 0, none⟩)) (N (.pointer (some ⟨118, 0, none⟩)) t247 .nil) (L (U 2))) 4 75 false
def o9 : FObj := .cells (N (.pointer (some ⟨119, 0, none⟩)) (N (U 1) (N (.slice (some ⟨764, 0, none⟩) 5 18446744073709551616) t247 .nil) (N (U 1) (L (I 40)) .nil)) (N (.slice none 0 0) (N (U 1) (L (W 242181136)) .nil) (N (I 8) (L (I 64)) .nil))) 11 165 false
def o10 : FObj := .cells (N (I 8) (N (U 1) (N (I 4) t247 (L (W 3194414625))) (N (W 383163474) (L (I 5)) t247)) (N (W 242181136) (N (U 1) (L (W 1037287850)) (L (I 6))) (N (I 7) t247 (L (W 136799451))))) 15 35 false
def o11 : FObj := .cells (N (.slice (some ⟨115, 0, none⟩) 64 64) (N (.slice (some ⟨116, 0, none⟩) 64 64) (L (I 16)) t26) t29) 6 65 false
def o12 : FObj := .cells (N (.bool true) (L (I 4)) (L (I 5))) 3 188 false
def o13 : FObj := .cells (N (I 4) (L (I 5)) .nil) 2 70 false
def o14 : FObj := .cells (N (.pointer (some ⟨117, 0, none⟩)) (N (.pointer (some ⟨1017, 0, none⟩)) (L (U 0)) .nil) (L (U 0))) 4 75 false
def o15 : FObj := .cells (N (.slice (some ⟨115, 0, none⟩) 64 64) (N (.slice (some ⟨116, 0, none⟩) 64 64) (L (I 21)) t26) t29) 6 65 false
def o16 : FObj := .cells .nil 0 56 false
def m0 : Memo := ⟨[(.pointer (some ⟨2, 0, none⟩))], 4, [(0, o0), (1, o0), (2, o1)], (.tuple #[(.agg #[(U 0), (U 0), (I 0), (U 0), (W 0), (I 0), (I 0)]), (.bool false)]), [(2, some o2)], 113⟩
def m1 : Memo := ⟨[(.pointer (some ⟨2, 0, none⟩))], 3, [(0, o0), (1, o0), (2, o1)], (.tuple #[(.agg #[(.slice none 0 0), (.slice none 0 0), (.bool false), (I 0), (I 0)]), (I 91)]), [(2, some o2)], 114⟩
def m2 : Memo := ⟨[(I 64)], 118, [], (.pointer (some ⟨118, 0, none⟩)), [(118, some o3)], 119⟩
def m3 : Memo := ⟨[(.pointer (some ⟨117, 0, none⟩))], 118, [(115, o0), (116, o0), (117, o4)], (.tuple #[(.pointer (some ⟨120, 0, none⟩)), (I 0)]), [(115, some o5), (116, some o5), (117, some o6), (118, some o7), (119, some o8), (120, some o9), (764, some o10)], 842⟩
def m4 : Memo := ⟨[(.pointer (some ⟨117, 0, none⟩))], 844, [(115, o5), (116, o5), (117, o6)], (.tuple #[(.agg #[(U 1), (U 1), (I 8), (U 1), (W 242181136), (I 40), (I 64)]), (.bool true)]), [(117, some o11)], 1016⟩
def m5 : Memo := ⟨[(I 64)], 1017, [], (.pointer (some ⟨1017, 0, none⟩)), [(1017, some o3)], 1018⟩
def m6 : Memo := ⟨[(.slice none 0 0), (.slice (some ⟨1204, 0, none⟩) 1 1)], 1216, [(1204, o12)], (.tuple #[(.slice (some ⟨1216, 0, none⟩) 1 18446744073709551616), (I 0)]), [(1216, some o13)], 1239⟩
def m7 : Memo := ⟨[(.pointer (some ⟨1018, 0, none⟩)), (.agg #[(I 8), (U 1), (W 242181136)])], 1019, [(115, o5), (116, o5), (117, o11), (1017, o3), (1018, o14)], (.tuple #[(.agg #[(U 1), (.slice (some ⟨1184, 0, none⟩) 0 0)]), (.slice (some ⟨1216, 0, none⟩) 1 18446744073709551616), (.slice (some ⟨1291, 0, none⟩) 5 18446744073709551616), (I 0)]), [(117, some o15), (1184, some o16), (1216, some o13), (1291, some o10)], 1292⟩
def m8 : Memo := ⟨[(.pointer (some ⟨117, 0, none⟩))], 843, [(115, o5), (116, o5), (117, o6)], (.tuple #[(.agg #[(.slice (some ⟨1323, 0, none⟩) 1 18446744073709551616), (.slice (some ⟨1216, 0, none⟩) 1 18446744073709551616), (.bool false), (I 0), (I 0)]), (I 0)]), [(117, some o15), (1216, some o13), (1323, some o13)], 1324⟩
end Go.Am.Dat
