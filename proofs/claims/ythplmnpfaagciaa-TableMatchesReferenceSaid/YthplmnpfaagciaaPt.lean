/- The program's types, for the evaluator (printed by types.py). -/
import Derived.Test.YthplmnpfaagciaaPd
import Derived.Test.YthplmnpfaagciaaProg
set_option maxRecDepth 100000
namespace Go.Proofs.Ythplmnpfaagciaa.Pw
open Go

noncomputable def ty1 : TE := ⟨.leaf, .nilf, .func, false⟩
noncomputable def ty2 : TE := ⟨.leaf, (.int .i64 0), .int .i64, false⟩
noncomputable def ty3 : TE := ⟨.leaf, (.int .i64 0), .int .i64, false⟩
noncomputable def ty4 : TE := ⟨.leaf, (.bool false), .bool, false⟩
noncomputable def ty5 : TE := ⟨.leaf, (.int .u8 0), .int .u8, false⟩
noncomputable def ty6 : TE := ⟨.leaf, (.int .u8 0), .int .u8, false⟩
noncomputable def ty7 : TE := ⟨(.agg [.leaf, .leaf, .leaf, .leaf]), (.agg [(.int .i64 0), (.int .i64 0), (.bool false), (.int .u8 0)]), .struct [2, 3, 4, 6], true⟩
noncomputable def ty8 : TE := ⟨(.agg [.leaf, .leaf, .leaf, .leaf]), (.agg [(.int .i64 0), (.int .i64 0), (.bool false), (.int .u8 0)]), .struct [2, 3, 4, 6], true⟩
noncomputable def ty9 : TE := ⟨.leaf, (.str (ByteArray.mk #[])), .str, false⟩
noncomputable def ty10 : TE := ⟨.leaf, (.str (ByteArray.mk #[])), .str, false⟩
noncomputable def ty11 : TE := ⟨.leaf, (.str (ByteArray.mk #[])), .str, false⟩
noncomputable def ty12 : TE := ⟨.leaf, (.int .u64 0), .int .u64, false⟩
noncomputable def ty13 : TE := ⟨(.agg [.leaf, .leaf]), (.agg [(.str (ByteArray.mk #[])), (.int .u64 0)]), .struct [9, 12], false⟩
noncomputable def ty14 : TE := ⟨(.agg [.leaf, .leaf]), (.agg [(.str (ByteArray.mk #[])), (.int .u64 0)]), .struct [9, 12], false⟩
noncomputable def ty15 : TE := ⟨.leaf, .nilp, .ptr, false⟩
noncomputable def ty16 : TE := ⟨.leaf, .nilp, .ptr, false⟩
noncomputable def ty17 : TE := ⟨.leaf, .nilp, .ptr, false⟩
noncomputable def ty18 : TE := ⟨(.agg [.leaf]), (.agg [.nilp]), .struct [17], false⟩
noncomputable def ty19 : TE := ⟨(.agg [.leaf]), (.agg [.nilp]), .struct [17], false⟩
noncomputable def ty21 : TE := ⟨.leaf, (.int .i32 0), .int .i32, false⟩
noncomputable def ty22 : TE := ⟨.leaf, .nils, .slice 62, false⟩
noncomputable def ty23 : TE := ⟨(.agg [.leaf]), (.agg [.nils]), .struct [22], false⟩
noncomputable def ty24 : TE := ⟨(.agg [.leaf]), (.agg [.nils]), .struct [22], false⟩
noncomputable def ty25 : TE := ⟨.leaf, .nils, .slice 28, false⟩
noncomputable def ty26 : TE := ⟨.leaf, .nils, .slice 3, false⟩
noncomputable def ty27 : TE := ⟨(.agg [.leaf, .leaf, .leaf, .leaf, .leaf]), (.agg [(.int .i64 0), (.int .i64 0), (.bool false), (.int .i64 0), (.int .i64 0)]), .struct [3, 3, 4, 3, 3], true⟩
noncomputable def ty28 : TE := ⟨(.agg [.leaf, .leaf, .leaf, .leaf, .leaf]), (.agg [(.int .i64 0), (.int .i64 0), (.bool false), (.int .i64 0), (.int .i64 0)]), .struct [3, 3, 4, 3, 3], true⟩
noncomputable def ty29 : TE := ⟨.leaf, .nils, .slice 34, false⟩
noncomputable def ty30 : TE := ⟨(.agg [.leaf, .leaf, .leaf, (.agg [.leaf, .leaf, .leaf, .leaf, .leaf]), .leaf]), (.agg [.nils, .nils, (.int .i64 0), (.agg [(.int .i64 0), (.int .i64 0), (.bool false), (.int .i64 0), (.int .i64 0)]), .nils]), .struct [25, 26, 3, 28, 29], false⟩
noncomputable def ty31 : TE := ⟨(.agg [.leaf, .leaf, .leaf, (.agg [.leaf, .leaf, .leaf, .leaf, .leaf]), .leaf]), (.agg [.nils, .nils, (.int .i64 0), (.agg [(.int .i64 0), (.int .i64 0), (.bool false), (.int .i64 0), (.int .i64 0)]), .nils]), .struct [25, 26, 3, 28, 29], false⟩
noncomputable def ty32 : TE := ⟨.leaf, .nilf, .func, false⟩
noncomputable def ty33 : TE := ⟨(.agg [.leaf, .leaf, .leaf, .leaf, .leaf, .leaf]), (.agg [(.int .i64 0), (.int .i64 0), (.bool false), (.int .i64 0), (.int .i64 0), .nils]), .struct [3, 3, 4, 3, 3, 26], false⟩
noncomputable def ty34 : TE := ⟨(.agg [.leaf, .leaf, .leaf, .leaf, .leaf, .leaf]), (.agg [(.int .i64 0), (.int .i64 0), (.bool false), (.int .i64 0), (.int .i64 0), .nils]), .struct [3, 3, 4, 3, 3, 26], false⟩
noncomputable def ty35 : TE := ⟨.leaf, .nilf, .func, false⟩
noncomputable def ty36 : TE := ⟨.leaf, .nils, .slice 25, false⟩
noncomputable def ty37 : TE := ⟨.leaf, (.int .i64 0), .int .i64, false⟩
noncomputable def ty38 : TE := ⟨.leaf, .nilf, .func, false⟩
noncomputable def ty39 : TE := ⟨.leaf, .nilf, .func, false⟩
noncomputable def ty40 : TE := ⟨.leaf, .nils, .slice 55, false⟩
noncomputable def ty41 : TE := ⟨(.agg [.leaf, .leaf]), (.agg [.nils, (.int .i64 0)]), .struct [40, 37], false⟩
noncomputable def ty42 : TE := ⟨(.agg [.leaf, .leaf]), (.agg [.nils, (.int .i64 0)]), .struct [40, 37], false⟩
noncomputable def ty43 : TE := ⟨.leaf, .nilf, .func, false⟩
noncomputable def ty44 : TE := ⟨(.agg [.leaf, .leaf]), (.agg [.nils, (.int .i64 0)]), .struct [29, 37], false⟩
noncomputable def ty45 : TE := ⟨(.agg [.leaf, .leaf]), (.agg [.nils, (.int .i64 0)]), .struct [29, 37], false⟩
noncomputable def ty46 : TE := ⟨.leaf, .nilf, .func, false⟩
noncomputable def ty47 : TE := ⟨.leaf, .nilf, .func, false⟩
noncomputable def ty48 : TE := ⟨.leaf, .nilf, .func, false⟩
noncomputable def ty49 : TE := ⟨.leaf, .nilf, .func, false⟩
noncomputable def ty50 : TE := ⟨.leaf, .nils, .slice 104, false⟩
noncomputable def ty51 : TE := ⟨(.agg [.leaf, .leaf, .leaf]), (.agg [(.int .u8 0), (.int .u8 0), .nils]), .struct [5, 5, 50], false⟩
noncomputable def ty52 : TE := ⟨(.agg [.leaf, .leaf, .leaf]), (.agg [(.int .u8 0), (.int .u8 0), .nils]), .struct [5, 5, 50], false⟩
noncomputable def ty53 : TE := ⟨.leaf, .nilf, .func, false⟩
noncomputable def ty54 : TE := ⟨(.agg [.leaf, .leaf, .leaf, .leaf]), (.agg [(.int .i64 0), (.int .i64 0), (.int .i64 0), (.int .i64 0)]), .struct [3, 3, 3, 3], true⟩
noncomputable def ty55 : TE := ⟨(.agg [.leaf, .leaf, .leaf, .leaf]), (.agg [(.int .i64 0), (.int .i64 0), (.int .i64 0), (.int .i64 0)]), .struct [3, 3, 3, 3], true⟩
noncomputable def ty56 : TE := ⟨.leaf, .nilf, .func, false⟩
noncomputable def ty57 : TE := ⟨.leaf, .nilf, .func, false⟩
noncomputable def ty58 : TE := ⟨.leaf, .nilf, .func, false⟩
noncomputable def ty59 : TE := ⟨.leaf, .nilf, .func, false⟩
noncomputable def ty60 : TE := ⟨.leaf, .nilf, .func, false⟩
noncomputable def ty61 : TE := ⟨.leaf, .nilf, .func, false⟩
noncomputable def ty62 : TE := ⟨(.agg [.leaf, .leaf, .leaf, .leaf]), (.agg [(.int .u8 0), (.int .u8 0), (.int .u8 0), (.int .u8 0)]), .array 4 5, false⟩
noncomputable def ty63 : TE := ⟨.leaf, .nils, .slice 26, false⟩
noncomputable def ty64 : TE := ⟨(.agg [.leaf, .leaf]), (.agg [.nils, .nils]), .struct [63, 63], false⟩
noncomputable def ty65 : TE := ⟨(.agg [.leaf, .leaf]), (.agg [.nils, .nils]), .struct [63, 63], false⟩
noncomputable def ty66 : TE := ⟨.leaf, .nilf, .func, false⟩
noncomputable def ty67 : TE := ⟨.leaf, .nilf, .func, false⟩
noncomputable def ty68 : TE := ⟨.leaf, .nilf, .func, false⟩
noncomputable def ty69 : TE := ⟨.leaf, .nilf, .func, false⟩
noncomputable def ty70 : TE := ⟨.leaf, .nilf, .func, false⟩
noncomputable def ty72 : TE := ⟨.leaf, .nilf, .func, false⟩
noncomputable def ty74 : TE := ⟨.leaf, .nilf, .func, false⟩
noncomputable def ty75 : TE := ⟨.leaf, .nilf, .func, false⟩
noncomputable def ty76 : TE := ⟨.leaf, .nilf, .func, false⟩
noncomputable def ty77 : TE := ⟨.leaf, .nilf, .func, false⟩
noncomputable def ty78 : TE := ⟨(.agg [.leaf, .leaf]), (.agg [(.int .i64 0), (.int .i64 0)]), .array 2 3, false⟩
noncomputable def ty79 : TE := ⟨.leaf, .nilf, .func, false⟩
noncomputable def ty80 : TE := ⟨.leaf, .nilf, .func, false⟩
noncomputable def ty81 : TE := ⟨.leaf, .nilf, .func, false⟩
noncomputable def ty82 : TE := ⟨.leaf, .nilf, .func, false⟩
noncomputable def ty83 : TE := ⟨.leaf, .nilp, .ptr, false⟩
noncomputable def ty84 : TE := ⟨.leaf, .nilf, .func, false⟩
noncomputable def ty85 : TE := ⟨.leaf, .nilf, .func, false⟩
noncomputable def ty86 : TE := ⟨(.agg [.leaf, .leaf, .leaf]), (.agg [(.int .i64 0), (.int .i64 0), (.bool false)]), .struct [3, 3, 4], true⟩
noncomputable def ty87 : TE := ⟨(.agg [.leaf, .leaf, .leaf]), (.agg [(.int .i64 0), (.int .i64 0), (.bool false)]), .struct [3, 3, 4], true⟩
noncomputable def ty88 : TE := ⟨.leaf, .nilm, .map 87 3, false⟩
noncomputable def ty89 : TE := ⟨(.agg [.leaf, .leaf]), (.agg [.nils, .nilm]), .struct [29, 88], false⟩
noncomputable def ty90 : TE := ⟨(.agg [.leaf, .leaf]), (.agg [.nils, .nilm]), .struct [29, 88], false⟩
noncomputable def ty91 : TE := ⟨.leaf, .nilm, .map 3 3, false⟩
noncomputable def ty92 : TE := ⟨.leaf, .nilf, .func, false⟩
noncomputable def ty94 : TE := ⟨.leaf, .nilf, .func, false⟩
noncomputable def ty95 : TE := ⟨.leaf, .nils, .slice 100, false⟩
noncomputable def ty96 : TE := ⟨.leaf, .nilf, .func, false⟩
noncomputable def ty97 : TE := ⟨.leaf, .nilf, .func, false⟩
noncomputable def ty98 : TE := ⟨.leaf, .nilf, .func, false⟩
noncomputable def ty99 : TE := ⟨(.agg [.leaf, .leaf, .leaf]), (.agg [(.int .i64 0), .nilf, .nilf]), .struct [3, 97, 98], false⟩
noncomputable def ty100 : TE := ⟨(.agg [.leaf, .leaf, .leaf]), (.agg [(.int .i64 0), .nilf, .nilf]), .struct [3, 97, 98], false⟩
noncomputable def ty102 : TE := ⟨.leaf, (.int .u64 0), .int .u64, false⟩
noncomputable def ty103 : TE := ⟨.leaf, .nilf, .func, false⟩
noncomputable def ty104 : TE := ⟨.leaf, .nils, .slice 5, false⟩
noncomputable def ty105 : TE := ⟨.leaf, .nilf, .func, false⟩
noncomputable def ty106 : TE := ⟨.leaf, .nilf, .func, false⟩
noncomputable def ty107 : TE := ⟨.leaf, .nilf, .func, false⟩
noncomputable def ty108 : TE := ⟨.leaf, .nilf, .func, false⟩
noncomputable def ty109 : TE := ⟨.leaf, .nilf, .func, false⟩
noncomputable def ty110 : TE := ⟨.leaf, .nilf, .func, false⟩
noncomputable def ty111 : TE := ⟨.leaf, .nilf, .func, false⟩
noncomputable def ty112 : TE := ⟨(.agg [.leaf, .leaf, .leaf, .leaf]), (.agg [.nilp, .nilp, .nilp, (.str (ByteArray.mk #[]))]), .struct [17, 17, 17, 9], false⟩
noncomputable def ty113 : TE := ⟨(.agg [.leaf, .leaf, .leaf, .leaf]), (.agg [.nilp, .nilp, .nilp, (.str (ByteArray.mk #[]))]), .struct [17, 17, 17, 9], false⟩
noncomputable def ty114 : TE := ⟨(.agg []), (.agg []), .array 0 16, false⟩
noncomputable def ty115 : TE := ⟨(.agg [(.agg [])]), (.agg [(.agg [])]), .struct [114], false⟩
noncomputable def ty116 : TE := ⟨(.agg [(.agg [])]), (.agg [(.agg [])]), .struct [114], false⟩
noncomputable def ty117 : TE := ⟨.leaf, .nilf, .func, false⟩
noncomputable def ty118 : TE := ⟨.leaf, (.int .u32 0), .int .u32, false⟩
noncomputable def ty119 : TE := ⟨.leaf, (.int .u8 0), .int .u8, false⟩
noncomputable def ty120 : TE := ⟨.leaf, (.int .u8 0), .int .u8, false⟩
noncomputable def ty121 : TE := ⟨.leaf, .nilf, .func, false⟩
noncomputable def ty122 : TE := ⟨.leaf, .nilp, .ptr, false⟩
noncomputable def ty123 : TE := ⟨.leaf, (.int .i32 0), .int .i32, false⟩
noncomputable def ty124 : TE := ⟨.leaf, (.int .i32 0), .int .i32, false⟩
noncomputable def ty125 : TE := ⟨(.agg [.leaf, .leaf, .leaf, .leaf, .leaf, .leaf, .leaf, .leaf, .leaf, .leaf, .leaf]), (.agg [(.int .u64 0), (.int .u64 0), (.int .u32 0), (.int .u8 0), (.int .u8 0), (.int .u8 0), (.int .u8 0), .nilf, .nilp, (.int .i32 0), (.int .i32 0)]), .struct [12, 12, 118, 119, 5, 5, 120, 121, 122, 123, 124], false⟩
noncomputable def ty126 : TE := ⟨(.agg [.leaf, .leaf, .leaf, .leaf, .leaf, .leaf, .leaf, .leaf, .leaf, .leaf, .leaf]), (.agg [(.int .u64 0), (.int .u64 0), (.int .u32 0), (.int .u8 0), (.int .u8 0), (.int .u8 0), (.int .u8 0), .nilf, .nilp, (.int .i32 0), (.int .i32 0)]), .struct [12, 12, 118, 119, 5, 5, 120, 121, 122, 123, 124], false⟩

noncomputable def tys (t : Nat) : TE := bif Nat.blt t 64 then (bif Nat.blt t 32 then (bif Nat.blt t 16 then (bif Nat.blt t 8 then (bif Nat.blt t 4 then (bif Nat.blt t 2 then (bif Nat.blt t 1 then (noTE) else (ty1)) else (bif Nat.blt t 3 then (ty2) else (ty3))) else (bif Nat.blt t 6 then (bif Nat.blt t 5 then (ty4) else (ty5)) else (bif Nat.blt t 7 then (ty6) else (ty7)))) else (bif Nat.blt t 12 then (bif Nat.blt t 10 then (bif Nat.blt t 9 then (ty8) else (ty9)) else (bif Nat.blt t 11 then (ty10) else (ty11))) else (bif Nat.blt t 14 then (bif Nat.blt t 13 then (ty12) else (ty13)) else (bif Nat.blt t 15 then (ty14) else (ty15))))) else (bif Nat.blt t 24 then (bif Nat.blt t 20 then (bif Nat.blt t 18 then (bif Nat.blt t 17 then (ty16) else (ty17)) else (bif Nat.blt t 19 then (ty18) else (ty19))) else (bif Nat.blt t 22 then (bif Nat.blt t 21 then (noTE) else (ty21)) else (bif Nat.blt t 23 then (ty22) else (ty23)))) else (bif Nat.blt t 28 then (bif Nat.blt t 26 then (bif Nat.blt t 25 then (ty24) else (ty25)) else (bif Nat.blt t 27 then (ty26) else (ty27))) else (bif Nat.blt t 30 then (bif Nat.blt t 29 then (ty28) else (ty29)) else (bif Nat.blt t 31 then (ty30) else (ty31)))))) else (bif Nat.blt t 48 then (bif Nat.blt t 40 then (bif Nat.blt t 36 then (bif Nat.blt t 34 then (bif Nat.blt t 33 then (ty32) else (ty33)) else (bif Nat.blt t 35 then (ty34) else (ty35))) else (bif Nat.blt t 38 then (bif Nat.blt t 37 then (ty36) else (ty37)) else (bif Nat.blt t 39 then (ty38) else (ty39)))) else (bif Nat.blt t 44 then (bif Nat.blt t 42 then (bif Nat.blt t 41 then (ty40) else (ty41)) else (bif Nat.blt t 43 then (ty42) else (ty43))) else (bif Nat.blt t 46 then (bif Nat.blt t 45 then (ty44) else (ty45)) else (bif Nat.blt t 47 then (ty46) else (ty47))))) else (bif Nat.blt t 56 then (bif Nat.blt t 52 then (bif Nat.blt t 50 then (bif Nat.blt t 49 then (ty48) else (ty49)) else (bif Nat.blt t 51 then (ty50) else (ty51))) else (bif Nat.blt t 54 then (bif Nat.blt t 53 then (ty52) else (ty53)) else (bif Nat.blt t 55 then (ty54) else (ty55)))) else (bif Nat.blt t 60 then (bif Nat.blt t 58 then (bif Nat.blt t 57 then (ty56) else (ty57)) else (bif Nat.blt t 59 then (ty58) else (ty59))) else (bif Nat.blt t 62 then (bif Nat.blt t 61 then (ty60) else (ty61)) else (bif Nat.blt t 63 then (ty62) else (ty63))))))) else (bif Nat.blt t 96 then (bif Nat.blt t 80 then (bif Nat.blt t 72 then (bif Nat.blt t 68 then (bif Nat.blt t 66 then (bif Nat.blt t 65 then (ty64) else (ty65)) else (bif Nat.blt t 67 then (ty66) else (ty67))) else (bif Nat.blt t 70 then (bif Nat.blt t 69 then (ty68) else (ty69)) else (bif Nat.blt t 71 then (ty70) else (noTE)))) else (bif Nat.blt t 76 then (bif Nat.blt t 74 then (bif Nat.blt t 73 then (ty72) else (noTE)) else (bif Nat.blt t 75 then (ty74) else (ty75))) else (bif Nat.blt t 78 then (bif Nat.blt t 77 then (ty76) else (ty77)) else (bif Nat.blt t 79 then (ty78) else (ty79))))) else (bif Nat.blt t 88 then (bif Nat.blt t 84 then (bif Nat.blt t 82 then (bif Nat.blt t 81 then (ty80) else (ty81)) else (bif Nat.blt t 83 then (ty82) else (ty83))) else (bif Nat.blt t 86 then (bif Nat.blt t 85 then (ty84) else (ty85)) else (bif Nat.blt t 87 then (ty86) else (ty87)))) else (bif Nat.blt t 92 then (bif Nat.blt t 90 then (bif Nat.blt t 89 then (ty88) else (ty89)) else (bif Nat.blt t 91 then (ty90) else (ty91))) else (bif Nat.blt t 94 then (bif Nat.blt t 93 then (ty92) else (noTE)) else (bif Nat.blt t 95 then (ty94) else (ty95)))))) else (bif Nat.blt t 112 then (bif Nat.blt t 104 then (bif Nat.blt t 100 then (bif Nat.blt t 98 then (bif Nat.blt t 97 then (ty96) else (ty97)) else (bif Nat.blt t 99 then (ty98) else (ty99))) else (bif Nat.blt t 102 then (bif Nat.blt t 101 then (ty100) else (noTE)) else (bif Nat.blt t 103 then (ty102) else (ty103)))) else (bif Nat.blt t 108 then (bif Nat.blt t 106 then (bif Nat.blt t 105 then (ty104) else (ty105)) else (bif Nat.blt t 107 then (ty106) else (ty107))) else (bif Nat.blt t 110 then (bif Nat.blt t 109 then (ty108) else (ty109)) else (bif Nat.blt t 111 then (ty110) else (ty111))))) else (bif Nat.blt t 120 then (bif Nat.blt t 116 then (bif Nat.blt t 114 then (bif Nat.blt t 113 then (ty112) else (ty113)) else (bif Nat.blt t 115 then (ty114) else (ty115))) else (bif Nat.blt t 118 then (bif Nat.blt t 117 then (ty116) else (ty117)) else (bif Nat.blt t 119 then (ty118) else (ty119)))) else (bif Nat.blt t 124 then (bif Nat.blt t 122 then (bif Nat.blt t 121 then (ty120) else (ty121)) else (bif Nat.blt t 123 then (ty122) else (ty123))) else (bif Nat.blt t 126 then (bif Nat.blt t 125 then (ty124) else (ty125)) else (bif Nat.blt t 127 then (ty126) else (noTE)))))))
noncomputable def cx (n m : Nat) : Cx := ⟨Try.prog, mkT 128 tys, n, m⟩
theorem tys_ok : allT (cx 0 0) 128 = true := by decide +kernel
theorem mixed_ok : Try.prog.follows .mixedOrders = true := by decide +kernel
theorem okc (n m : Nat) : Ok (cx n m) := ok_move (c := cx 0 0) rfl rfl (ok_of (T := tys) rfl tys_ok mixed_ok)

end Go.Proofs.Ythplmnpfaagciaa.Pw
